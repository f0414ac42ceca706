/- Part of a proof. -/
import Derived.Test.YtfdcjngclelnhaaXS
set_option linter.unusedSectionVars false
set_option linter.unusedSimpArgs false
set_option linter.unusedVariables false
namespace Go.Proofs.Ytfdcjngclelnhaa
open Go Go.RowKit
set_option maxRecDepth 100000
set_option maxHeartbeats 4000000
noncomputable section
inductive s_part_V where
  | e (s0:B82)
  | l0 (y0:B82) (y1:Bool) (y2:D) (y3:D) (y4:Nat)
  | l1 (y0:B82) (y1:Bool) (y2:D) (y3:D) (y4:D) (y5:Nat)
  | l2 (y0:B82) (y1:Bool) (y2:D) (y3:D) (y4:D) (y5:D) (y6:D) (y7:Nat)
def s_part_at:s_part_V → Pth × List AV × Heap
  | .e s0=>([],startT Try.f66 [.ptr (some (0,0))],[b82 s0 0])
  | .l0 y0 y1 y2 y3 y4=>([1,1,1,1,1,1],mkT 64 [(0,.ptr (some (0,0))),(2,.ptr (some (1,0))),(4,.ptr (some (2,0)))],[some (o82 y0 0),some (.cells 54 [.dat (.int .i64 0),.dat (.bool false),.dat .nils,.dat .nils,.dat .nils,.dat .nils,.dat .nils,.dat .nils,.dat (.int .i64 0),.dat .nils] 0),some (.cells 54 [.dat (.int .i64 1),.dat (.bool y1),.dat y2,.dat y3,.dat .nils,.dat .nils,.dat .nils,.dat .nils,.dat (.int .i64 (-1)),.dat .nils] y4)])
  | .l1 y0 y1 y2 y3 y4 y5=>([1,1,1,1,1,1,1],mkT 64 [(0,.ptr (some (0,0))),(2,.ptr (some (1,0))),(4,.ptr (some (2,0)))],[some (o82 y0 0),some (.cells 54 [.dat (.int .i64 0),.dat (.bool false),.dat .nils,.dat .nils,.dat .nils,.dat .nils,.dat .nils,.dat .nils,.dat (.int .i64 0),.dat .nils] 0),some (.cells 54 [.dat (.int .i64 1),.dat (.bool y1),.dat y2,.dat y3,.dat y4,.dat .nils,.dat .nils,.dat .nils,.dat (.int .i64 (-1)),.dat .nils] y5)])
  | .l2 y0 y1 y2 y3 y4 y5 y6 y7=>([1,1,1,1,1,1,1,1],mkT 64 [(0,.ptr (some (0,0))),(2,.ptr (some (1,0))),(4,.ptr (some (2,0)))],[some (o82 y0 0),some (.cells 54 [.dat (.int .i64 0),.dat (.bool false),.dat .nils,.dat .nils,.dat .nils,.dat .nils,.dat .nils,.dat .nils,.dat (.int .i64 0),.dat .nils] 0),some (.cells 54 [.dat (.int .i64 1),.dat (.bool y1),.dat y2,.dat y3,.dat y4,.dat y5,.dat y6,.dat .nils,.dat (.int .i64 (-1)),.dat .nils] y7)])
def s_part_st (S:Fns) (r:D × B82 → Prop) (l:s_part_V → Prop):s_part_V → Prop
  | .e s0=>bn (S.s_mark s0 [40]) fun x22=>cnd x22.1 (bn (S.s_query x22.2) fun x23=>an (okG 54 x23.1) (fl x23.1 [2,3,4,5,6,7,9] (bn (S.s_need x23.2 [41]) fun x24=>fl x23.1 [2,3,4,5,6,7,9] (r ((G 54 x23.1),x24))))) (bn (S.s_must x22.2 [115,101,108,101,99,116]) fun x25=>bn (S.s_word x25 [100,105,115,116,105,110,99,116]) fun x26=>bn (S.s_list_item x26.2) fun x27=>an x27.1.flat (an x27.1.flat (bn (S.s_word x27.2 [102,114,111,109]) fun x28=>cnd x28.1 (bn (S.s_source x28.2) fun x29=>an (okG 65 x29.1) (l (.l0 x29.2 x26.1 x27.1 (.slice [G 65 x29.1]) 12))) (l (.l0 x28.2 x26.1 x27.1 .nils 11)))))
  | .l0 y0 y1 y2 y3 y4=>bn (S.s_word y0 [119,104,101,114,101]) fun x30=>cnd x30.1 (bn (S.s_expr x30.2) fun x31=>an (okG 38 x31.1) (l (.l1 x31.2 y1 y2 y3 (.slice [G 38 x31.1]) (y4 + 1)))) (l (.l1 x30.2 y1 y2 y3 .nils y4))
  | .l1 y0 y1 y2 y3 y4 y5=>bn (S.s_word y0 [103,114,111,117,112]) fun x32=>cnd x32.1 (bn (S.s_must x32.2 [98,121]) fun x33=>bn (S.s_list_expr x33) fun x34=>an x34.1.flat (an x34.1.flat (bn (S.s_word x34.2 [104,97,118,105,110,103]) fun x35=>cnd x35.1 (bn (S.s_expr x35.2) fun x36=>an (okG 38 x36.1) (l (.l2 x36.2 y1 y2 y3 y4 x34.1 (.slice [G 38 x36.1]) (y5 + 1 + 1)))) (l (.l2 x35.2 y1 y2 y3 y4 x34.1 .nils (y5 + 1)))))) (l (.l2 x32.2 y1 y2 y3 y4 .nils .nils y5))
  | .l2 y0 y1 y2 y3 y4 y5 y6 y7=>bn (S.s_word y0 [111,114,100,101,114]) fun x37=>cnd x37.1 (bn (S.s_must x37.2 [98,121]) fun x38=>bn (S.s_list_key x38) fun x39=>an x39.1.flat (an x39.1.flat (bn (S.s_word x39.2 [108,105,109,105,116]) fun x40=>cnd x40.1 (bn (S.s_number x40.2) fun x41=>an y2.flat (an y3.flat (an y4.flat (an y5.flat (an y6.flat (an x39.1.flat (r ((.agg [.int .i64 1,.bool y1,y2,y3,y4,y5,y6,x39.1,.int .i64 x41.1,.nils]),x41.2)))))))) (an y2.flat (an y3.flat (an y4.flat (an y5.flat (an y6.flat (an x39.1.flat (r ((.agg [.int .i64 1,.bool y1,y2,y3,y4,y5,y6,x39.1,.int .i64 (-1),.nils]),x40.2))))))))))) (bn (S.s_word x37.2 [108,105,109,105,116]) fun x42=>cnd x42.1 (bn (S.s_number x42.2) fun x43=>an y2.flat (an y3.flat (an y4.flat (an y5.flat (an y6.flat (r ((.agg [.int .i64 1,.bool y1,y2,y3,y4,y5,y6,.nils,.int .i64 x43.1,.nils]),x43.2))))))) (an y2.flat (an y3.flat (an y4.flat (an y5.flat (an y6.flat (r ((.agg [.int .i64 1,.bool y1,y2,y3,y4,y5,y6,.nils,.int .i64 (-1),.nils]),x42.2))))))))
theorem s_part_k (S:Fns):KOk Try.prog [] 66 Try.f66 (enAll S) [([1,1,1,1,1,1],[(1,1),(3,1),(5,59)],true),([1,1,1,1,1,1,1],[(1,1),(3,1),(5,59)],true),([1,1,1,1,1,1,1,1],[(1,1),(3,1),(5,59)],true)] 1 s_part_at enc0 (s_part_st S):=by intro K g v; cases v <;> kernel_rfl
theorem s_part_m {S:Fns}:Mono (s_part_st S):=fun _ _ _ hl v=>by cases v <;> (dsimp only [s_part_st]; repeat' first | exact id | exact hl _ | apply imp_an | apply imp_cnd | (refine imp_bn fun _=>?_) | apply imp_fl | (refine imp_gcas ?_ ?_ fun _ _=>?_))
def s_part_raw (S:Fns) (n:Nat) (s0:B82):Option (D × B82):=rawN enc0 (s_part_st S) n (.e s0)
theorem s_part_ok {S:Fns} (hS:FnsOk S) (n:Nat):EntryOk Try.prog (e0 66 54 (s_part_raw S n)):=e0_ok fun _ _ hr=>gen_e prog_ok Try.func66 rfl hS (s_part_k S) s_part_m rfl rfl hr
inductive t_pass_V where
  | en (s0:B47)
  | eo (s0:B47) (es0:List D) (w0:Nat)
  | l0 (y0:List UInt8) (y1:Int) (y2:Nat)
  | l1 (y0:List UInt8) (y1:Int) (y2:Nat) (y3:List D) (y4:Nat)
  | l2 (y0:List UInt8) (y1:Int) (y2:Nat)
  | l3 (y0:List UInt8) (y1:Int) (y2:Nat) (y3:List D) (y4:Nat)
def t_pass_at:t_pass_V → Pth × List AV × Heap
  | .en s0=>([],startT Try.f20 [.ptr (some (0,0))],[some (.cells 47 [.dat (.str (s0).c0),.dat (.int .i64 (s0).c1),.dat .nils] s0.ver)])
  | .eo s0 es0 w0=>([],startT Try.f20 [.ptr (some (0,0))],[some (.cells 47 [.dat (.str (s0).c0),.dat (.int .i64 (s0).c1),.own (.at 0 2 w0 34) es0] s0.ver)])
  | .l0 y0 y1 y2=>([1,0],mkT 72 [(0,.ptr (some (0,0)))],[some (.cells 47 [.dat (.str y0),.dat (.int .i64 y1),.dat .nils] y2)])
  | .l1 y0 y1 y2 y3 y4=>([1,0],mkT 72 [(0,.ptr (some (0,0)))],[some (.cells 47 [.dat (.str y0),.dat (.int .i64 y1),.own (.at 0 2 y2 34) y3] y4)])
  | .l2 y0 y1 y2=>([0,0,1,0],mkT 72 [(0,.ptr (some (0,0)))],[some (.cells 47 [.dat (.str y0),.dat (.int .i64 y1),.dat .nils] y2)])
  | .l3 y0 y1 y2 y3 y4=>([0,0,1,0],mkT 72 [(0,.ptr (some (0,0)))],[some (.cells 47 [.dat (.str y0),.dat (.int .i64 y1),.own (.at 0 2 y2 34) y3] y4)])
def t_pass_st (S:Fns) (r:B47 → Prop) (l:t_pass_V → Prop):t_pass_V → Prop
  | .en s0=>l (.l0 s0.c0 s0.c1 s0.ver)
  | .eo s0 es0 w0=>l (.l1 s0.c0 s0.c1 w0 es0 s0.ver)
  | .l0 y0 y1 y2=>l (.l2 y0 y1 y2)
  | .l1 y0 y1 y2 y3 y4=>l (.l3 y0 y1 y2 y3 y4)
  | .l2 y0 y1 y2=>cnd (decide (y1 < Int.ofNat y0.length)) (cnd (decide (y1 < 0)) False (bn (y0[y1.toNat]?) fun x12=>bn (S.g_IndexByte [32,9,10,13] (Int.ofNat x12.toNat)) fun x13=>cnd (decide (x13 ≥ 0)) (l (.l2 y0 (IntKind.i64.wrap (y1 + 1)) (y2 + 1))) (an (decide (0 ≤ y1) && decide (y1 ≤ Int.ofNat y0.length)) (bn (S.g_HasPrefix (List.take (y0.length - y1.toNat) (List.drop y1.toNat y0)) [45,45]) fun x14=>cnd (!x14) (r (⟨y0,y1,.n,y2⟩:B47)) (an (decide (0 ≤ y1) && decide (y1 ≤ Int.ofNat y0.length)) (bn (S.g_IndexByte (List.take (y0.length - y1.toNat) (List.drop y1.toNat y0)) 10) fun x15=>cnd (decide (x15 ≥ 0)) (l (.l0 y0 (IntKind.i64.wrap (y1 + x15)) (y2 + 1))) (r (⟨y0,(Int.ofNat y0.length),.n,y2 + 1⟩:B47)))))))) (an (decide (0 ≤ y1) && decide (y1 ≤ Int.ofNat y0.length)) (bn (S.g_HasPrefix (List.take (y0.length - y1.toNat) (List.drop y1.toNat y0)) [45,45]) fun x16=>cnd (!x16) (r (⟨y0,y1,.n,y2⟩:B47)) (an (decide (0 ≤ y1) && decide (y1 ≤ Int.ofNat y0.length)) (bn (S.g_IndexByte (List.take (y0.length - y1.toNat) (List.drop y1.toNat y0)) 10) fun x17=>cnd (decide (x17 ≥ 0)) (l (.l0 y0 (IntKind.i64.wrap (y1 + x17)) (y2 + 1))) (r (⟨y0,(Int.ofNat y0.length),.n,y2 + 1⟩:B47))))))
  | .l3 y0 y1 y2 y3 y4=>cnd (decide (y1 < Int.ofNat y0.length)) (cnd (decide (y1 < 0)) False (bn (y0[y1.toNat]?) fun x18=>bn (S.g_IndexByte [32,9,10,13] (Int.ofNat x18.toNat)) fun x19=>cnd (decide (x19 ≥ 0)) (l (.l3 y0 (IntKind.i64.wrap (y1 + 1)) y2 y3 (y4 + 1))) (an (decide (0 ≤ y1) && decide (y1 ≤ Int.ofNat y0.length)) (bn (S.g_HasPrefix (List.take (y0.length - y1.toNat) (List.drop y1.toNat y0)) [45,45]) fun x20=>cnd (!x20) (r (⟨y0,y1,(.o y3 y2),y4⟩:B47)) (an (decide (0 ≤ y1) && decide (y1 ≤ Int.ofNat y0.length)) (bn (S.g_IndexByte (List.take (y0.length - y1.toNat) (List.drop y1.toNat y0)) 10) fun x21=>cnd (decide (x21 ≥ 0)) (l (.l1 y0 (IntKind.i64.wrap (y1 + x21)) y2 y3 (y4 + 1))) (r (⟨y0,(Int.ofNat y0.length),(.o y3 y2),y4 + 1⟩:B47)))))))) (an (decide (0 ≤ y1) && decide (y1 ≤ Int.ofNat y0.length)) (bn (S.g_HasPrefix (List.take (y0.length - y1.toNat) (List.drop y1.toNat y0)) [45,45]) fun x22=>cnd (!x22) (r (⟨y0,y1,(.o y3 y2),y4⟩:B47)) (an (decide (0 ≤ y1) && decide (y1 ≤ Int.ofNat y0.length)) (bn (S.g_IndexByte (List.take (y0.length - y1.toNat) (List.drop y1.toNat y0)) 10) fun x23=>cnd (decide (x23 ≥ 0)) (l (.l1 y0 (IntKind.i64.wrap (y1 + x23)) y2 y3 (y4 + 1))) (r (⟨y0,(Int.ofNat y0.length),(.o y3 y2),y4 + 1⟩:B47))))))
theorem t_pass_k (S:Fns):KOk Try.prog [true] 20 Try.f20 (enAll S) [([1,0],[(1,71)],false),([0,0,1,0],[(1,71)],false)] 1 t_pass_at enc21 (t_pass_st S):=by intro K g v; cases v <;> kernel_rfl
theorem t_pass_m {S:Fns}:Mono (t_pass_st S):=fun _ _ _ hl v=>by cases v <;> (dsimp only [t_pass_st]; repeat' first | exact id | exact hl _ | apply imp_an | apply imp_cnd | (refine imp_bn fun _=>?_) | apply imp_fl | (refine imp_gcas ?_ ?_ fun _ _=>?_))
def t_pass_raw (S:Fns) (n:Nat) (s0:B47):Option (B47):=gcas s0.c2 (rawN enc21 (t_pass_st S) n (.en s0)) (none) fun es0 w0=>rawN enc21 (t_pass_st S) n (.eo s0 es0 w0)
theorem t_pass_ok {S:Fns} (hS:FnsOk S) (n:Nat):EntryOk Try.prog (e21 20 (t_pass_raw S n)):=e21_ok fun ⟨_,_,g0,_⟩ r hr=>by
  rcases g0 with _ | _ | ⟨_,_⟩
  · exact gen_e prog_ok Try.func20 rfl hS (t_pass_k S) t_pass_m rfl rfl hr
  · exact nomatch (show (none:Option (B47)) = some r from hr)
  · exact gen_e prog_ok Try.func20 rfl hS (t_pass_k S) t_pass_m rfl rfl hr
inductive t_name_V where
  | en (s0:B47)
  | eo (s0:B47) (es0:List D) (w0:Nat)
def t_name_at:t_name_V → Pth × List AV × Heap
  | .en s0=>([],startT Try.f37 [.ptr (some (0,0))],[some (.cells 47 [.dat (.str (s0).c0),.dat (.int .i64 (s0).c1),.dat .nils] s0.ver)])
  | .eo s0 es0 w0=>([],startT Try.f37 [.ptr (some (0,0))],[some (.cells 47 [.dat (.str (s0).c0),.dat (.int .i64 (s0).c1),.own (.at 0 2 w0 34) es0] s0.ver)])
def t_name_st (S:Fns) (r:Int × B47 → Prop) (l:t_name_V → Prop):t_name_V → Prop
  | .en s0=>bn (S.t_run_name (B47.mk s0.c0 s0.c1 GC.n s0.ver)) fun x20=>gcas x20.2.c2 (cnd (decide (Int.ofNat x20.1.length > 30)) (bn (S.t_form (B47.mk x20.2.c0 x20.2.c1 GC.n x20.2.ver) s0.c1) fun x22=>gcas x22.2.c2 (r (x22.1,(⟨x22.2.c0,x22.2.c1,.n,x22.2.ver⟩:B47))) False fun x23 w23=>r (x22.1,(⟨x22.2.c0,x22.2.c1,(.o x23 w23),x22.2.ver⟩:B47))) (bn (S.t_put (B47.mk x20.2.c0 x20.2.c1 GC.n x20.2.ver) (.agg [.int .i64 1,.str x20.1,.int .i64 0,.int .i64 s0.c1])) fun x24=>gcas x24.2.c2 (r (x24.1,(⟨x24.2.c0,x24.2.c1,.n,x24.2.ver⟩:B47))) False fun x25 w25=>r (x24.1,(⟨x24.2.c0,x24.2.c1,(.o x25 w25),x24.2.ver⟩:B47)))) False fun x21 w21=>cnd (decide (Int.ofNat x20.1.length > 30)) (bn (S.t_form (B47.mk x20.2.c0 x20.2.c1 (GC.o x21 w21) x20.2.ver) s0.c1) fun x26=>gcas x26.2.c2 (r (x26.1,(⟨x26.2.c0,x26.2.c1,.n,x26.2.ver⟩:B47))) False fun x27 w27=>r (x26.1,(⟨x26.2.c0,x26.2.c1,(.o x27 w27),x26.2.ver⟩:B47))) (bn (S.t_put (B47.mk x20.2.c0 x20.2.c1 (GC.o x21 w21) x20.2.ver) (.agg [.int .i64 1,.str x20.1,.int .i64 0,.int .i64 s0.c1])) fun x28=>gcas x28.2.c2 (r (x28.1,(⟨x28.2.c0,x28.2.c1,.n,x28.2.ver⟩:B47))) False fun x29 w29=>r (x28.1,(⟨x28.2.c0,x28.2.c1,(.o x29 w29),x28.2.ver⟩:B47)))
  | .eo s0 es0 w0=>bn (S.t_run_name (B47.mk s0.c0 s0.c1 (GC.o es0 w0) s0.ver)) fun x30=>gcas x30.2.c2 (cnd (decide (Int.ofNat x30.1.length > 30)) (bn (S.t_form (B47.mk x30.2.c0 x30.2.c1 GC.n x30.2.ver) s0.c1) fun x32=>gcas x32.2.c2 (r (x32.1,(⟨x32.2.c0,x32.2.c1,.n,x32.2.ver⟩:B47))) False fun x33 w33=>r (x32.1,(⟨x32.2.c0,x32.2.c1,(.o x33 w33),x32.2.ver⟩:B47))) (bn (S.t_put (B47.mk x30.2.c0 x30.2.c1 GC.n x30.2.ver) (.agg [.int .i64 1,.str x30.1,.int .i64 0,.int .i64 s0.c1])) fun x34=>gcas x34.2.c2 (r (x34.1,(⟨x34.2.c0,x34.2.c1,.n,x34.2.ver⟩:B47))) False fun x35 w35=>r (x34.1,(⟨x34.2.c0,x34.2.c1,(.o x35 w35),x34.2.ver⟩:B47)))) False fun x31 w31=>cnd (decide (Int.ofNat x30.1.length > 30)) (bn (S.t_form (B47.mk x30.2.c0 x30.2.c1 (GC.o x31 w31) x30.2.ver) s0.c1) fun x36=>gcas x36.2.c2 (r (x36.1,(⟨x36.2.c0,x36.2.c1,.n,x36.2.ver⟩:B47))) False fun x37 w37=>r (x36.1,(⟨x36.2.c0,x36.2.c1,(.o x37 w37),x36.2.ver⟩:B47))) (bn (S.t_put (B47.mk x30.2.c0 x30.2.c1 (GC.o x31 w31) x30.2.ver) (.agg [.int .i64 1,.str x30.1,.int .i64 0,.int .i64 s0.c1])) fun x38=>gcas x38.2.c2 (r (x38.1,(⟨x38.2.c0,x38.2.c1,.n,x38.2.ver⟩:B47))) False fun x39 w39=>r (x38.1,(⟨x38.2.c0,x38.2.c1,(.o x39 w39),x38.2.ver⟩:B47)))
theorem t_name_k (S:Fns):KOk Try.prog [true] 37 Try.f37 (enAll S) [] 1 t_name_at enc22 (t_name_st S):=by intro K g v; cases v <;> kernel_rfl
def t_name_raw (S:Fns) (n:Nat) (s0:B47):Option (Int × B47):=gcas s0.c2 (rawN enc22 (t_name_st S) n (.en s0)) (none) fun es0 w0=>rawN enc22 (t_name_st S) n (.eo s0 es0 w0)
theorem t_name_ok {S:Fns} (hS:FnsOk S) (n:Nat):EntryOk Try.prog (e22 37 (t_name_raw S n)):=e22_ok fun ⟨_,_,g0,_⟩ r hr=>by
  rcases g0 with _ | _ | ⟨_,_⟩
  · exact gen_e prog_ok Try.func37 rfl hS (t_name_k S) (fun _ _ _ _ v=>by cases v <;> exact id) rfl rfl hr
  · exact nomatch (show (none:Option (Int × B47)) = some r from hr)
  · exact gen_e prog_ok Try.func37 rfl hS (t_name_k S) (fun _ _ _ _ v=>by cases v <;> exact id) rfl rfl hr
inductive t_run_digit_V where
  | en (s0:B47)
  | eo (s0:B47) (es0:List D) (w0:Nat)
  | l0 (y0:Int) (y1:List UInt8) (y2:Int) (y3:Nat)
  | l1 (y0:Int) (y1:List UInt8) (y2:Int) (y3:Nat) (y4:List D) (y5:Nat)
def t_run_digit_at:t_run_digit_V → Pth × List AV × Heap
  | .en s0=>([],startT Try.f60 [.ptr (some (0,0)),.func (.func 38) [] []],[some (.cells 47 [.dat (.str (s0).c0),.dat (.int .i64 (s0).c1),.dat .nils] s0.ver)])
  | .eo s0 es0 w0=>([],startT Try.f60 [.ptr (some (0,0)),.func (.func 38) [] []],[some (.cells 47 [.dat (.str (s0).c0),.dat (.int .i64 (s0).c1),.own (.at 0 2 w0 34) es0] s0.ver)])
  | .l0 y0 y1 y2 y3=>([0,0,1,1],mkT 50 [(0,.ptr (some (0,0))),(1,.func (.func 38) [] []),(5,.dat (.int .i64 y0))],[some (.cells 47 [.dat (.str y1),.dat (.int .i64 y2),.dat .nils] y3)])
  | .l1 y0 y1 y2 y3 y4 y5=>([0,0,1,1],mkT 50 [(0,.ptr (some (0,0))),(1,.func (.func 38) [] []),(5,.dat (.int .i64 y0))],[some (.cells 47 [.dat (.str y1),.dat (.int .i64 y2),.own (.at 0 2 y3 34) y4] y5)])
def t_run_digit_st (S:Fns) (r:List UInt8 × B47 → Prop) (l:t_run_digit_V → Prop):t_run_digit_V → Prop
  | .en s0=>l (.l0 s0.c1 s0.c0 s0.c1 s0.ver)
  | .eo s0 es0 w0=>l (.l1 s0.c1 s0.c0 s0.c1 w0 es0 s0.ver)
  | .l0 y0 y1 y2 y3=>cnd (decide (y2 < Int.ofNat y1.length)) (cnd (decide (y2 < 0)) False (bn (y1[y2.toNat]?) fun x8=>bn (S.t_digit (Int.ofNat x8.toNat)) fun x9=>cnd x9 (l (.l0 y0 y1 (IntKind.i64.wrap (y2 + 1)) (y3 + 1))) (an (decide (0 ≤ y2) && decide (y2 ≤ Int.ofNat y1.length)) (an (decide (0 ≤ y0) && decide (y0 ≤ Int.ofNat y2.toNat)) (r ((List.take (y2.toNat - y0.toNat) (List.drop y0.toNat y1)),(⟨y1,y2,.n,y3⟩:B47))))))) (an (decide (0 ≤ y2) && decide (y2 ≤ Int.ofNat y1.length)) (an (decide (0 ≤ y0) && decide (y0 ≤ Int.ofNat y2.toNat)) (r ((List.take (y2.toNat - y0.toNat) (List.drop y0.toNat y1)),(⟨y1,y2,.n,y3⟩:B47)))))
  | .l1 y0 y1 y2 y3 y4 y5=>cnd (decide (y2 < Int.ofNat y1.length)) (cnd (decide (y2 < 0)) False (bn (y1[y2.toNat]?) fun x10=>bn (S.t_digit (Int.ofNat x10.toNat)) fun x11=>cnd x11 (l (.l1 y0 y1 (IntKind.i64.wrap (y2 + 1)) y3 y4 (y5 + 1))) (an (decide (0 ≤ y2) && decide (y2 ≤ Int.ofNat y1.length)) (an (decide (0 ≤ y0) && decide (y0 ≤ Int.ofNat y2.toNat)) (r ((List.take (y2.toNat - y0.toNat) (List.drop y0.toNat y1)),(⟨y1,y2,(.o y4 y3),y5⟩:B47))))))) (an (decide (0 ≤ y2) && decide (y2 ≤ Int.ofNat y1.length)) (an (decide (0 ≤ y0) && decide (y0 ≤ Int.ofNat y2.toNat)) (r ((List.take (y2.toNat - y0.toNat) (List.drop y0.toNat y1)),(⟨y1,y2,(.o y4 y3),y5⟩:B47)))))
theorem t_run_digit_k (S:Fns):KOk Try.prog [true] 60 Try.f60 (enAll S) [([0,0,1,1],[(2,3),(6,44)],false)] 1 t_run_digit_at enc25 (t_run_digit_st S):=by intro K g v; cases v <;> kernel_rfl
theorem t_run_digit_m {S:Fns}:Mono (t_run_digit_st S):=fun _ _ _ hl v=>by cases v <;> (dsimp only [t_run_digit_st]; repeat' first | exact id | exact hl _ | apply imp_an | apply imp_cnd | (refine imp_bn fun _=>?_) | apply imp_fl | (refine imp_gcas ?_ ?_ fun _ _=>?_))
def t_run_digit_raw (S:Fns) (n:Nat) (s0:B47):Option (List UInt8 × B47):=gcas s0.c2 (rawN enc25 (t_run_digit_st S) n (.en s0)) (none) fun es0 w0=>rawN enc25 (t_run_digit_st S) n (.eo s0 es0 w0)
theorem t_run_digit_ok {S:Fns} (hS:FnsOk S) (n:Nat):EntryOk Try.prog (e25 60 38 (t_run_digit_raw S n)):=e25_ok fun ⟨_,_,g0,_⟩ r hr=>by
  rcases g0 with _ | _ | ⟨_,_⟩
  · exact gen_e prog_ok Try.func60 rfl hS (t_run_digit_k S) t_run_digit_m rfl rfl hr
  · exact nomatch (show (none:Option (List UInt8 × B47)) = some r from hr)
  · exact gen_e prog_ok Try.func60 rfl hS (t_run_digit_k S) t_run_digit_m rfl rfl hr
inductive t_next_V where
  | en (s0:B47)
  | eo (s0:B47) (es0:List D) (w0:Nat)
def t_next_at:t_next_V → Pth × List AV × Heap
  | .en s0=>([],startT Try.f21 [.ptr (some (0,0))],[some (.cells 47 [.dat (.str (s0).c0),.dat (.int .i64 (s0).c1),.dat .nils] s0.ver)])
  | .eo s0 es0 w0=>([],startT Try.f21 [.ptr (some (0,0))],[some (.cells 47 [.dat (.str (s0).c0),.dat (.int .i64 (s0).c1),.own (.at 0 2 w0 34) es0] s0.ver)])
def t_next_st (S:Fns) (r:Int × B47 → Prop) (l:t_next_V → Prop):t_next_V → Prop
  | .en s0=>cnd (decide (s0.c1 < 0)) False (bn (s0.c0[s0.c1.toNat]?) fun x22=>bn (S.t_letter (Int.ofNat x22.toNat)) fun x23=>cnd x23 (bn (S.t_name (B47.mk s0.c0 s0.c1 GC.n s0.ver)) fun x24=>gcas x24.2.c2 (r (x24.1,(⟨x24.2.c0,x24.2.c1,.n,x24.2.ver⟩:B47))) False fun x25 w25=>r (x24.1,(⟨x24.2.c0,x24.2.c1,(.o x25 w25),x24.2.ver⟩:B47))) (bn (S.t_digit (Int.ofNat x22.toNat)) fun x26=>cnd x26 (bn (S.t_number (B47.mk s0.c0 s0.c1 GC.n s0.ver)) fun x27=>gcas x27.2.c2 (r (x27.1,(⟨x27.2.c0,x27.2.c1,.n,x27.2.ver⟩:B47))) False fun x28 w28=>r (x27.1,(⟨x27.2.c0,x27.2.c1,(.o x28 w28),x27.2.ver⟩:B47))) (cnd (Int.ofNat x22.toNat == 39) (bn (S.t_text (B47.mk s0.c0 s0.c1 GC.n s0.ver)) fun x29=>gcas x29.2.c2 (r (x29.1,(⟨x29.2.c0,x29.2.c1,.n,x29.2.ver⟩:B47))) False fun x30 w30=>r (x29.1,(⟨x29.2.c0,x29.2.c1,(.o x30 w30),x29.2.ver⟩:B47))) (bn (S.t_mark (B47.mk s0.c0 s0.c1 GC.n s0.ver)) fun x31=>gcas x31.2.c2 (r (x31.1,(⟨x31.2.c0,x31.2.c1,.n,x31.2.ver⟩:B47))) False fun x32 w32=>r (x31.1,(⟨x31.2.c0,x31.2.c1,(.o x32 w32),x31.2.ver⟩:B47))))))
  | .eo s0 es0 w0=>cnd (decide (s0.c1 < 0)) False (bn (s0.c0[s0.c1.toNat]?) fun x33=>bn (S.t_letter (Int.ofNat x33.toNat)) fun x34=>cnd x34 (bn (S.t_name (B47.mk s0.c0 s0.c1 (GC.o es0 w0) s0.ver)) fun x35=>gcas x35.2.c2 (r (x35.1,(⟨x35.2.c0,x35.2.c1,.n,x35.2.ver⟩:B47))) False fun x36 w36=>r (x35.1,(⟨x35.2.c0,x35.2.c1,(.o x36 w36),x35.2.ver⟩:B47))) (bn (S.t_digit (Int.ofNat x33.toNat)) fun x37=>cnd x37 (bn (S.t_number (B47.mk s0.c0 s0.c1 (GC.o es0 w0) s0.ver)) fun x38=>gcas x38.2.c2 (r (x38.1,(⟨x38.2.c0,x38.2.c1,.n,x38.2.ver⟩:B47))) False fun x39 w39=>r (x38.1,(⟨x38.2.c0,x38.2.c1,(.o x39 w39),x38.2.ver⟩:B47))) (cnd (Int.ofNat x33.toNat == 39) (bn (S.t_text (B47.mk s0.c0 s0.c1 (GC.o es0 w0) s0.ver)) fun x40=>gcas x40.2.c2 (r (x40.1,(⟨x40.2.c0,x40.2.c1,.n,x40.2.ver⟩:B47))) False fun x41 w41=>r (x40.1,(⟨x40.2.c0,x40.2.c1,(.o x41 w41),x40.2.ver⟩:B47))) (bn (S.t_mark (B47.mk s0.c0 s0.c1 (GC.o es0 w0) s0.ver)) fun x42=>gcas x42.2.c2 (r (x42.1,(⟨x42.2.c0,x42.2.c1,.n,x42.2.ver⟩:B47))) False fun x43 w43=>r (x42.1,(⟨x42.2.c0,x42.2.c1,(.o x43 w43),x42.2.ver⟩:B47))))))
theorem t_next_k (S:Fns):KOk Try.prog [true] 21 Try.f21 (enAll S) [] 1 t_next_at enc22 (t_next_st S):=by intro K g v; cases v <;> kernel_rfl
def t_next_raw (S:Fns) (n:Nat) (s0:B47):Option (Int × B47):=gcas s0.c2 (rawN enc22 (t_next_st S) n (.en s0)) (none) fun es0 w0=>rawN enc22 (t_next_st S) n (.eo s0 es0 w0)
theorem t_next_ok {S:Fns} (hS:FnsOk S) (n:Nat):EntryOk Try.prog (e22 21 (t_next_raw S n)):=e22_ok fun ⟨_,_,g0,_⟩ r hr=>by
  rcases g0 with _ | _ | ⟨_,_⟩
  · exact gen_e prog_ok Try.func21 rfl hS (t_next_k S) (fun _ _ _ _ v=>by cases v <;> exact id) rfl rfl hr
  · exact nomatch (show (none:Option (Int × B47)) = some r from hr)
  · exact gen_e prog_ok Try.func21 rfl hS (t_next_k S) (fun _ _ _ _ v=>by cases v <;> exact id) rfl rfl hr
inductive s_left_prod_V where
  | e (s0:B82) (a3:D)
  | l0 (y0:D) (y1:B82) (y2:D) (y3:Nat)
  | l1 (y0:D) (y1:Int) (y2:Int) (y3:B82) (y4:D) (y5:Nat)
def s_left_prod_at:s_left_prod_V → Pth × List AV × Heap
  | .e s0 a3=>([],startT Try.f51 [.ptr (some (0,0)),.func (.func 115) [.ptr (some (0,0))] [],.func (.func 82) [.ptr (some (0,0))] [],.dat a3],[b82 s0 0])
  | .l0 y0 y1 y2 y3=>([1,1,0,1],mkT 30 [(1,.func (.func 115) [.ptr (some (0,0))] []),(2,.func (.func 82) [.ptr (some (0,0))] []),(3,.dat y0),(8,.ptr (some (1,0))),(9,.ptr (some (2,0)))],[some (o82 y1 0),some (.cells 38 [.dat (.int .i64 0),.dat (.int .i64 0),.dat (.str []),.dat (.str []),.dat .nils,.dat .nils] 0),some (sbx 38 y2 y3)])
  | .l1 y0 y1 y2 y3 y4 y5=>([0,1,0,1,1,0,1],mkT 30 [(1,.func (.func 115) [.ptr (some (0,0))] []),(2,.func (.func 82) [.ptr (some (0,0))] []),(3,.dat y0),(8,.ptr (some (1,0))),(9,.ptr (some (2,0))),(14,.dat y0),(15,.dat (.int .i64 y1)),(16,.dat (.int .i64 y2))],[some (o82 y3 0),some (.cells 38 [.dat (.int .i64 0),.dat (.int .i64 0),.dat (.str []),.dat (.str []),.dat .nils,.dat .nils] 0),some (sbx 38 y4 y5)])
def s_left_prod_st (S:Fns) (r:D × B82 → Prop) (l:s_left_prod_V → Prop):s_left_prod_V → Prop
  | .e s0 a3=>bn (S.s_unary s0) fun x15=>an (okG 38 x15.1) (fl x15.1 [4,5] (l (.l0 a3 x15.2 x15.1 6)))
  | .l0 y0 y1 y2 y3=>bn (asL y0) fun x16=>l (.l1 y0 (Int.ofNat x16.length) 0 y1 y2 y3)
  | .l1 y0 y1 y2 y3 y4 y5=>cnd (decide (y2 < y1)) (bn (asL y0) fun x17=>bn (atD x17 y2) fun x18=>an x18.flat (bn (asS x18) fun x19=>bn (S.s_mark y3 x19) fun x20=>cnd x20.1 (bn (S.s_unary x20.2) fun x21=>an (okG 38 x21.1) (an (okG 38 (G 38 y4)) (an (okG 38 (G 38 x21.1)) (bn (S.s_bin x19 (G 38 y4) (G 38 x21.1)) fun x22=>an (okG 38 x22) (fl x22 [4,5] (l (.l0 y0 x21.2 x22 (y5 + 6)))))))) (l (.l1 y0 y1 (IntKind.i64.wrap (y2 + 1)) x20.2 y4 y5)))) (fl y4 [4,5] (r ((G 38 y4),y3)))
theorem s_left_prod_k (S:Fns):KOk Try.prog [] 51 Try.f51 (enAll S) [([1,1,0,1],[(0,1),(4,4),(10,20)],false),([0,1,0,1,1,0,1],[(0,1),(4,4),(10,4),(17,13)],false)] 1 s_left_prod_at enc12 (s_left_prod_st S):=by intro K g v; cases v <;> kernel_rfl
theorem s_left_prod_m {S:Fns}:Mono (s_left_prod_st S):=fun _ _ _ hl v=>by cases v <;> (dsimp only [s_left_prod_st]; repeat' first | exact id | exact hl _ | apply imp_an | apply imp_cnd | (refine imp_bn fun _=>?_) | apply imp_fl | (refine imp_gcas ?_ ?_ fun _ _=>?_))
def s_left_prod_raw (S:Fns) (n:Nat) (s0:B82) (a3:D):Option (D × B82):=rawN enc12 (s_left_prod_st S) n (.e s0 a3)
theorem s_left_prod_ok {S:Fns} (hS:FnsOk S) (n:Nat):EntryOk Try.prog (e12 51 115 82 38 (s_left_prod_raw S n)):=e12_ok fun _ _ _ hr=>gen_e prog_ok Try.func51 rfl hS (s_left_prod_k S) s_left_prod_m rfl rfl hr
inductive s_left_and_V where
  | e (s0:B82) (a3:D)
  | l0 (y0:D) (y1:B82) (y2:D) (y3:Nat)
  | l1 (y0:D) (y1:Int) (y2:Int) (y3:B82) (y4:D) (y5:Nat)
def s_left_and_at:s_left_and_V → Pth × List AV × Heap
  | .e s0 a3=>([],startT Try.f51 [.ptr (some (0,0)),.func (.func 53) [.ptr (some (0,0))] [],.func (.func 54) [.ptr (some (0,0))] [],.dat a3],[b82 s0 0])
  | .l0 y0 y1 y2 y3=>([1,1,0,1],mkT 30 [(1,.func (.func 53) [.ptr (some (0,0))] []),(2,.func (.func 54) [.ptr (some (0,0))] []),(3,.dat y0),(8,.ptr (some (1,0))),(9,.ptr (some (2,0)))],[some (o82 y1 0),some (.cells 38 [.dat (.int .i64 0),.dat (.int .i64 0),.dat (.str []),.dat (.str []),.dat .nils,.dat .nils] 0),some (sbx 38 y2 y3)])
  | .l1 y0 y1 y2 y3 y4 y5=>([0,1,0,1,1,0,1],mkT 30 [(1,.func (.func 53) [.ptr (some (0,0))] []),(2,.func (.func 54) [.ptr (some (0,0))] []),(3,.dat y0),(8,.ptr (some (1,0))),(9,.ptr (some (2,0))),(14,.dat y0),(15,.dat (.int .i64 y1)),(16,.dat (.int .i64 y2))],[some (o82 y3 0),some (.cells 38 [.dat (.int .i64 0),.dat (.int .i64 0),.dat (.str []),.dat (.str []),.dat .nils,.dat .nils] 0),some (sbx 38 y4 y5)])
def s_left_and_st (S:Fns) (r:D × B82 → Prop) (l:s_left_and_V → Prop):s_left_and_V → Prop
  | .e s0 a3=>bn (S.s_not s0) fun x15=>an (okG 38 x15.1) (fl x15.1 [4,5] (l (.l0 a3 x15.2 x15.1 6)))
  | .l0 y0 y1 y2 y3=>bn (asL y0) fun x16=>l (.l1 y0 (Int.ofNat x16.length) 0 y1 y2 y3)
  | .l1 y0 y1 y2 y3 y4 y5=>cnd (decide (y2 < y1)) (bn (asL y0) fun x17=>bn (atD x17 y2) fun x18=>an x18.flat (bn (asS x18) fun x19=>bn (S.s_word y3 x19) fun x20=>cnd x20.1 (bn (S.s_not x20.2) fun x21=>an (okG 38 x21.1) (an (okG 38 (G 38 y4)) (an (okG 38 (G 38 x21.1)) (bn (S.s_bin x19 (G 38 y4) (G 38 x21.1)) fun x22=>an (okG 38 x22) (fl x22 [4,5] (l (.l0 y0 x21.2 x22 (y5 + 6)))))))) (l (.l1 y0 y1 (IntKind.i64.wrap (y2 + 1)) x20.2 y4 y5)))) (fl y4 [4,5] (r ((G 38 y4),y3)))
theorem s_left_and_k (S:Fns):KOk Try.prog [] 51 Try.f51 (enAll S) [([1,1,0,1],[(0,1),(4,4),(10,20)],false),([0,1,0,1,1,0,1],[(0,1),(4,4),(10,4),(17,13)],false)] 1 s_left_and_at enc12 (s_left_and_st S):=by intro K g v; cases v <;> kernel_rfl
theorem s_left_and_m {S:Fns}:Mono (s_left_and_st S):=fun _ _ _ hl v=>by cases v <;> (dsimp only [s_left_and_st]; repeat' first | exact id | exact hl _ | apply imp_an | apply imp_cnd | (refine imp_bn fun _=>?_) | apply imp_fl | (refine imp_gcas ?_ ?_ fun _ _=>?_))
def s_left_and_raw (S:Fns) (n:Nat) (s0:B82) (a3:D):Option (D × B82):=rawN enc12 (s_left_and_st S) n (.e s0 a3)
theorem s_left_and_ok {S:Fns} (hS:FnsOk S) (n:Nat):EntryOk Try.prog (e12 51 53 54 38 (s_left_and_raw S n)):=e12_ok fun _ _ _ hr=>gen_e prog_ok Try.func51 rfl hS (s_left_and_k S) s_left_and_m rfl rfl hr
inductive s_list_key_V where
  | e (s0:B82)
  | l0 (y0:List D) (y1:B82)
  | l1 (y0:List D) (y1:B82) (y2:Nat)
def s_list_key_at:s_list_key_V → Pth × List AV × Heap
  | .e s0=>([],startT Try.f89 [.ptr (some (0,0)),.func (.func 90) [.ptr (some (0,0))] []],[b82 s0 0])
  | .l0 y0 y1=>([0,0,1,1],mkT 17 [(0,.ptr (some (0,0))),(1,.func (.func 90) [.ptr (some (0,0))] []),(5,.own .full y0)],[some (o82 y1 0)])
  | .l1 y0 y1 y2=>([0,0,1,1],mkT 17 [(0,.ptr (some (0,0))),(1,.func (.func 90) [.ptr (some (0,0))] []),(5,.own (.tip 1) y0)],[some (o82 y1 0),some (.tip 109 y2 7)])
def s_list_key_st (S:Fns) (r:D × B82 → Prop) (l:s_list_key_V → Prop):s_list_key_V → Prop
  | .e s0=>bn (S.s_key s0) fun x5=>an (okG 109 x5.1) (l (.l0 [G 109 x5.1] x5.2))
  | .l0 y0 y1=>bn (S.s_mark y1 [44]) fun x6=>cnd x6.1 (bn (S.s_key x6.2) fun x7=>an (okG 109 x7.1) (fl x7.1 [4,5] (an (sized 7 y0) (an (roomOk (y0.length + 1) 104) (l (.l1 (y0 ++ [G 109 x7.1]) x7.2 (y0.length + 1))))))) (r ((.slice y0),x6.2))
  | .l1 y0 y1 y2=>bn (S.s_mark y1 [44]) fun x8=>cnd x8.1 (bn (S.s_key x8.2) fun x9=>an (okG 109 x9.1) (fl x9.1 [4,5] (an (y2 == y0.length) (an (roomOk (y2 + 1) 104) (l (.l1 (y0 ++ [G 109 x9.1]) x9.2 (y2 + 1))))))) (r ((.slice y0),x8.2))
theorem s_list_key_k (S:Fns):KOk Try.prog [] 89 Try.f89 (enAll S) [([0,0,1,1],[(2,3),(6,11)],false)] 1 s_list_key_at enc15 (s_list_key_st S):=by intro K g v; cases v <;> kernel_rfl
theorem s_list_key_m {S:Fns}:Mono (s_list_key_st S):=fun _ _ _ hl v=>by cases v <;> (dsimp only [s_list_key_st]; repeat' first | exact id | exact hl _ | apply imp_an | apply imp_cnd | (refine imp_bn fun _=>?_) | apply imp_fl | (refine imp_gcas ?_ ?_ fun _ _=>?_))
def s_list_key_raw (S:Fns) (n:Nat) (s0:B82):Option (D × B82):=rawN enc15 (s_list_key_st S) n (.e s0)
theorem s_list_key_ok {S:Fns} (hS:FnsOk S) (n:Nat):EntryOk Try.prog (e15 89 90 (s_list_key_raw S n)):=e15_ok fun _ _ hr=>gen_e prog_ok Try.func89 rfl hS (s_list_key_k S) s_list_key_m rfl rfl hr
inductive b_String_V where
  | en (s0:B92)
  | em (s0:B92)
  | eo (s0:B92) (es0:List D) (w0:Nat)
def b_String_at:b_String_V → Pth × List AV × Heap
  | .en s0=>([],startT Try.f65 [.ptr (some (0,0))],[some (.cells 92 [.ptr none,.dat .nils] s0.ver)])
  | .em s0=>([],startT Try.f65 [.ptr (some (0,0))],[some (.cells 92 [.ptr (some (0,0)),.dat .nils] s0.ver)])
  | .eo s0 es0 w0=>([],startT Try.f65 [.ptr (some (0,0))],[some (.cells 92 [.ptr (some (0,0)),.own (.at 0 1 w0 5) es0] s0.ver)])
def b_String_st (S:Fns) (r:List UInt8 × B92 → Prop) (l:b_String_V → Prop):b_String_V → Prop
  | .en s0=>r ([],(⟨.n,s0.ver⟩:B92))
  | .em s0=>r ([],(⟨.m,s0.ver⟩:B92))
  | .eo s0 es0 w0=>cnd es0.isEmpty False (cnd (Int.ofNat es0.length == 0) (r ([],(⟨(.o es0 w0),s0.ver⟩:B92))) (an (true && w0.beq w0 && true && es0.length.beq es0.length && true && decide ((Int.ofNat es0.length).toNat ≤ es0.length) && true && decide (Int.ofNat es0.length ≤ 9223372036854775807)) (bn (bytesOf (List.take (Int.ofNat es0.length).toNat es0)) fun x1=>r (x1,(⟨(.o es0 w0),s0.ver⟩:B92)))))
theorem b_String_k (S:Fns):KOk Try.prog [true] 65 Try.f65 (enAll S) [] 1 b_String_at enc32 (b_String_st S):=by intro K g v; cases v <;> kernel_rfl
def b_String_raw (S:Fns) (n:Nat) (s0:B92):Option (List UInt8 × B92):=gcas s0.c1 (rawN enc32 (b_String_st S) n (.en s0)) (rawN enc32 (b_String_st S) n (.em s0)) fun es0 w0=>rawN enc32 (b_String_st S) n (.eo s0 es0 w0)
theorem b_String_ok {S:Fns} (hS:FnsOk S) (n:Nat):EntryOk Try.prog (e32 65 (b_String_raw S n)):=e32_ok fun ⟨g0,_⟩ r hr=>by
  rcases g0 with _ | _ | ⟨_,_⟩
  · exact gen_e prog_ok Try.func65 rfl hS (b_String_k S) (fun _ _ _ _ v=>by cases v <;> exact id) rfl rfl hr
  · exact gen_e prog_ok Try.func65 rfl hS (b_String_k S) (fun _ _ _ _ v=>by cases v <;> exact id) rfl rfl hr
  · exact gen_e prog_ok Try.func65 rfl hS (b_String_k S) (fun _ _ _ _ v=>by cases v <;> exact id) rfl rfl hr
inductive r_SameQueries_V where
  | e (a0:D) (a1:D)
  | l0 (y0:D) (y1:D) (y2:Int)
def r_SameQueries_at:r_SameQueries_V → Pth × List AV × Heap
  | .e a0 a1=>([],startT Try.f29 [.dat a0,.dat a1],[])
  | .l0 y0 y1 y2=>([0,1,0,1,1],mkT 27 [(0,.dat y0),(1,.dat y1),(5,.dat (.int .i64 y2))],[])
def r_SameQueries_st (S:Fns) (r:Bool → Prop) (l:r_SameQueries_V → Prop):r_SameQueries_V → Prop
  | .e a0 a1=>bn (asL a0) fun x14=>bn (asL a1) fun x15=>cnd (Int.ofNat x14.length != Int.ofNat x15.length) (r false) (l (.l0 a0 a1 0))
  | .l0 y0 y1 y2=>bn (asL y0) fun x16=>cnd (decide (y2 < Int.ofNat x16.length)) (bn (asL y0) fun x17=>bn (atD x17 y2) fun x18=>an (okG 54 x18) (bn (asL y1) fun x19=>bn (atD x19 y2) fun x20=>an (okG 54 x20) (an (okG 54 (G 54 x18)) (an (okG 54 (G 54 x20)) (bn (S.r_SameQuery (G 54 x18) (G 54 x20)) fun x21=>cnd (!x21) (r false) (l (.l0 y0 y1 (IntKind.i64.wrap (y2 + 1))))))))) (r true)
theorem r_SameQueries_k (S:Fns):KOk Try.prog [] 29 Try.f29 (enAll S) [([0,1,0,1,1],[(2,3),(6,21)],false)] 0 r_SameQueries_at enc19 (r_SameQueries_st S):=by intro K g v; cases v <;> kernel_rfl
theorem r_SameQueries_m {S:Fns}:Mono (r_SameQueries_st S):=fun _ _ _ hl v=>by cases v <;> (dsimp only [r_SameQueries_st]; repeat' first | exact id | exact hl _ | apply imp_an | apply imp_cnd | (refine imp_bn fun _=>?_) | apply imp_fl | (refine imp_gcas ?_ ?_ fun _ _=>?_))
def r_SameQueries_raw (S:Fns) (n:Nat) (a0:D) (a1:D):Option (Bool):=rawN enc19 (r_SameQueries_st S) n (.e a0 a1)
theorem r_SameQueries_ok {S:Fns} (hS:FnsOk S) (n:Nat):EntryOk Try.prog (e19 29 (r_SameQueries_raw S n)):=e19_ok fun _ _ _ hr=>gen_e prog_ok Try.func29 rfl hS (r_SameQueries_k S) r_SameQueries_m rfl rfl hr
inductive b_copyCheck_V where
  | en (s0:B92)
  | em (s0:B92)
  | eo (s0:B92) (es0:List D) (w0:Nat)
def b_copyCheck_at:b_copyCheck_V → Pth × List AV × Heap
  | .en s0=>([],startT Try.f81 [.ptr (some (0,0))],[some (.cells 92 [.ptr none,.dat .nils] s0.ver)])
  | .em s0=>([],startT Try.f81 [.ptr (some (0,0))],[some (.cells 92 [.ptr (some (0,0)),.dat .nils] s0.ver)])
  | .eo s0 es0 w0=>([],startT Try.f81 [.ptr (some (0,0))],[some (.cells 92 [.ptr (some (0,0)),.own (.at 0 1 w0 5) es0] s0.ver)])
def b_copyCheck_st (S:Fns) (r:B92 → Prop) (l:b_copyCheck_V → Prop):b_copyCheck_V → Prop
  | .en s0=>r (⟨.m,s0.ver + 1⟩:B92)
  | .em s0=>r (⟨.m,s0.ver⟩:B92)
  | .eo s0 es0 w0=>r (⟨(.o es0 w0),s0.ver⟩:B92)
theorem b_copyCheck_k (S:Fns):KOk Try.prog [true] 81 Try.f81 (enAll S) [] 1 b_copyCheck_at enc29 (b_copyCheck_st S):=by intro K g v; cases v <;> kernel_rfl
def b_copyCheck_raw (S:Fns) (n:Nat) (s0:B92):Option (B92):=gcas s0.c1 (rawN enc29 (b_copyCheck_st S) n (.en s0)) (rawN enc29 (b_copyCheck_st S) n (.em s0)) fun es0 w0=>rawN enc29 (b_copyCheck_st S) n (.eo s0 es0 w0)
theorem b_copyCheck_ok {S:Fns} (hS:FnsOk S) (n:Nat):EntryOk Try.prog (e29 81 (b_copyCheck_raw S n)):=e29_ok fun ⟨g0,_⟩ r hr=>by
  rcases g0 with _ | _ | ⟨_,_⟩
  · exact gen_e prog_ok Try.func81 rfl hS (b_copyCheck_k S) (fun _ _ _ _ v=>by cases v <;> exact id) rfl rfl hr
  · exact gen_e prog_ok Try.func81 rfl hS (b_copyCheck_k S) (fun _ _ _ _ v=>by cases v <;> exact id) rfl rfl hr
  · exact gen_e prog_ok Try.func81 rfl hS (b_copyCheck_k S) (fun _ _ _ _ v=>by cases v <;> exact id) rfl rfl hr
inductive t_form_V where
  | en (s0:B47) (a1:Int)
  | eo (s0:B47) (a1:Int) (es0:List D) (w0:Nat)
def t_form_at:t_form_V → Pth × List AV × Heap
  | .en s0 a1=>([],startT Try.f62 [.ptr (some (0,0)),.dat (.int .i64 a1)],[some (.cells 47 [.dat (.str (s0).c0),.dat (.int .i64 (s0).c1),.dat .nils] s0.ver)])
  | .eo s0 a1 es0 w0=>([],startT Try.f62 [.ptr (some (0,0)),.dat (.int .i64 a1)],[some (.cells 47 [.dat (.str (s0).c0),.dat (.int .i64 (s0).c1),.own (.at 0 2 w0 34) es0] s0.ver)])
def t_form_st (S:Fns) (r:Int × B47 → Prop) (l:t_form_V → Prop):t_form_V → Prop
  | .en s0 a1=>r (10,(⟨s0.c0,a1,.n,s0.ver + 1⟩:B47))
  | .eo s0 a1 es0 w0=>r (10,(⟨s0.c0,a1,(.o es0 w0),s0.ver + 1⟩:B47))
theorem t_form_k (S:Fns):KOk Try.prog [true] 62 Try.f62 (enAll S) [] 1 t_form_at enc24 (t_form_st S):=by intro K g v; cases v <;> kernel_rfl
def t_form_raw (S:Fns) (n:Nat) (s0:B47) (a1:Int):Option (Int × B47):=gcas s0.c2 (rawN enc24 (t_form_st S) n (.en s0 a1)) (none) fun es0 w0=>rawN enc24 (t_form_st S) n (.eo s0 a1 es0 w0)
theorem t_form_ok {S:Fns} (hS:FnsOk S) (n:Nat):EntryOk Try.prog (e24 62 (t_form_raw S n)):=e24_ok fun ⟨_,_,g0,_⟩ _ r hr=>by
  rcases g0 with _ | _ | ⟨_,_⟩
  · exact gen_e prog_ok Try.func62 rfl hS (t_form_k S) (fun _ _ _ _ v=>by cases v <;> exact id) rfl rfl hr
  · exact nomatch (show (none:Option (Int × B47)) = some r from hr)
  · exact gen_e prog_ok Try.func62 rfl hS (t_form_k S) (fun _ _ _ _ v=>by cases v <;> exact id) rfl rfl hr
inductive s_readE_V where
  | e (a0:List UInt8) (a1:Int)
def s_readE_at:s_readE_V → Pth × List AV × Heap
  | .e a0 a1=>([],startT Try.f25 [.dat (.str a0),.dat (.int .i64 a1),.func (.func 26) [] []],[])
def s_readE_st (S:Fns) (r:D × Int × Int → Prop) (l:s_readE_V → Prop):s_readE_V → Prop
  | .e a0 a1=>bn (S.t_Scan a0) fun x4=>cnd (x4.2.2 != 0) (r ((.agg [.int .i64 0,.int .i64 0,.str [],.str [],.nils,.nils]),x4.2.1,x4.2.2)) (an x4.1.flat (bn (S.s_Expr1 (B82.mk x4.1 0 a1 0 0)) fun x5=>an (okG 38 x5.1) (fl x5.1 [4,5] (bn (S.s_now x5.2) fun x6=>an (okG 34 x6.1) (cnd (cI x6.1 0 != 0) (bn (S.s_fail x6.2 10) fun x7=>cnd (x7.c4 != 0) (r ((.agg [.int .i64 0,.int .i64 0,.str [],.str [],.nils,.nils]),x7.c3,x7.c4)) (fl x5.1 [4,5] (r ((G 38 x5.1),0,0)))) (cnd (x6.2.c4 != 0) (r ((.agg [.int .i64 0,.int .i64 0,.str [],.str [],.nils,.nils]),x6.2.c3,x6.2.c4)) (fl x5.1 [4,5] (r ((G 38 x5.1),0,0)))))))))
theorem s_readE_k (S:Fns):KOk Try.prog [] 25 Try.f25 (enAll S) [] 0 s_readE_at enc16 (s_readE_st S):=by intro K g v; cases v <;> kernel_rfl
def s_readE_raw (S:Fns) (n:Nat) (a0:List UInt8) (a1:Int):Option (D × Int × Int):=rawN enc16 (s_readE_st S) n (.e a0 a1)
theorem s_readE_ok {S:Fns} (hS:FnsOk S) (n:Nat):EntryOk Try.prog (e16 25 26 38 (s_readE_raw S n)):=e16_ok fun _ _ _ hr=>gen_e prog_ok Try.func25 rfl hS (s_readE_k S) (fun _ _ _ _ v=>by cases v <;> exact id) rfl rfl hr
inductive s_inner_not_V where
  | e (s0:B82) (a1:Int)
def s_inner_not_at:s_inner_not_V → Pth × List AV × Heap
  | .e s0 a1=>([],startT Try.f72 [.ptr (some (0,0)),.dat (.int .i64 a1),.func (.func 53) [.ptr (some (0,0))] []],[b82 s0 0])
def s_inner_not_st (S:Fns) (r:D × B82 → Prop) (l:s_inner_not_V → Prop):s_inner_not_V → Prop
  | .e s0 a1=>bn (S.s_enter s0) fun x3=>cnd (!x3.1) (r ((.agg [.int .i64 0,.int .i64 0,.str [],.str [],.nils,.nils]),x3.2)) (bn (S.s_not x3.2) fun x4=>an (okG 38 x4.1) (bn (S.s_leave x4.2) fun x5=>r ((.agg [.int .i64 a1,.int .i64 0,.str [],.str [],D.slice [G 38 x4.1],.nils]),x5)))
theorem s_inner_not_k (S:Fns):KOk Try.prog [] 72 Try.f72 (enAll S) [] 1 s_inner_not_at enc13 (s_inner_not_st S):=by intro K g v; cases v <;> kernel_rfl
def s_inner_not_raw (S:Fns) (n:Nat) (s0:B82) (a1:Int):Option (D × B82):=rawN enc13 (s_inner_not_st S) n (.e s0 a1)
theorem s_inner_not_ok {S:Fns} (hS:FnsOk S) (n:Nat):EntryOk Try.prog (e13 72 53 38 (s_inner_not_raw S n)):=e13_ok fun _ _ _ hr=>gen_e prog_ok Try.func72 rfl hS (s_inner_not_k S) (fun _ _ _ _ v=>by cases v <;> exact id) rfl rfl hr
inductive s_sees_V where
  | e (s0:B82) (a1:Int) (a2:List UInt8)
def s_sees_at:s_sees_V → Pth × List AV × Heap
  | .e s0 a1 a2=>([],startT Try.f74 [.ptr (some (0,0)),.dat (.int .i64 a1),.dat (.str a2)],[b82 s0 0])
def s_sees_st (S:Fns) (r:Bool × B82 → Prop) (l:s_sees_V → Prop):s_sees_V → Prop
  | .e s0 a1 a2=>cnd (s0.c4 == 0) (bn (S.s_now s0) fun x2=>an (okG 34 x2.1) (cnd (cI x2.1 0 == a1) (bn (S.s_now x2.2) fun x3=>an (okG 34 x3.1) (r ((cS x3.1 1 == a2),x3.2))) (r (false,x2.2)))) (r (false,s0))
theorem s_sees_k (S:Fns):KOk Try.prog [] 74 Try.f74 (enAll S) [] 1 s_sees_at enc2 (s_sees_st S):=by intro K g v; cases v <;> kernel_rfl
def s_sees_raw (S:Fns) (n:Nat) (s0:B82) (a1:Int) (a2:List UInt8):Option (Bool × B82):=rawN enc2 (s_sees_st S) n (.e s0 a1 a2)
theorem s_sees_ok {S:Fns} (hS:FnsOk S) (n:Nat):EntryOk Try.prog (e2 74 (s_sees_raw S n)):=e2_ok fun _ _ _ _ hr=>gen_e prog_ok Try.func74 rfl hS (s_sees_k S) (fun _ _ _ _ v=>by cases v <;> exact id) rfl rfl hr
inductive s_item_V where
  | e (s0:B82)
def s_item_at:s_item_V → Pth × List AV × Heap
  | .e s0=>([],startT Try.f86 [.ptr (some (0,0))],[b82 s0 0])
def s_item_st (S:Fns) (r:D × B82 → Prop) (l:s_item_V → Prop):s_item_V → Prop
  | .e s0=>bn (S.s_expr s0) fun x3=>an (okG 38 x3.1) (fl x3.1 [4,5] (bn (S.s_must x3.2 [97,115]) fun x4=>bn (S.s_name x4) fun x5=>fl x3.1 [4,5] (r ((.agg [.int .i64 (cI x3.1 0),.int .i64 (cI x3.1 1),.str (cS x3.1 2),.str (cS x3.1 3),cel x3.1 4,cel x3.1 5,.str x5.1]),x5.2))))
theorem s_item_k (S:Fns):KOk Try.prog [] 86 Try.f86 (enAll S) [] 1 s_item_at enc0 (s_item_st S):=by intro K g v; cases v <;> kernel_rfl
def s_item_raw (S:Fns) (n:Nat) (s0:B82):Option (D × B82):=rawN enc0 (s_item_st S) n (.e s0)
theorem s_item_ok {S:Fns} (hS:FnsOk S) (n:Nat):EntryOk Try.prog (e0 86 107 (s_item_raw S n)):=e0_ok fun _ _ hr=>gen_e prog_ok Try.func86 rfl hS (s_item_k S) (fun _ _ _ _ v=>by cases v <;> exact id) rfl rfl hr
inductive s_key_V where
  | e (s0:B82)
def s_key_at:s_key_V → Pth × List AV × Heap
  | .e s0=>([],startT Try.f90 [.ptr (some (0,0))],[b82 s0 0])
def s_key_st (S:Fns) (r:D × B82 → Prop) (l:s_key_V → Prop):s_key_V → Prop
  | .e s0=>bn (S.s_expr s0) fun x2=>an (okG 38 x2.1) (fl x2.1 [4,5] (bn (S.s_word x2.2 [100,101,115,99]) fun x3=>fl x2.1 [4,5] (r ((.agg [.int .i64 (cI x2.1 0),.int .i64 (cI x2.1 1),.str (cS x2.1 2),.str (cS x2.1 3),cel x2.1 4,cel x2.1 5,.bool x3.1]),x3.2))))
theorem s_key_k (S:Fns):KOk Try.prog [] 90 Try.f90 (enAll S) [] 1 s_key_at enc0 (s_key_st S):=by intro K g v; cases v <;> kernel_rfl
def s_key_raw (S:Fns) (n:Nat) (s0:B82):Option (D × B82):=rawN enc0 (s_key_st S) n (.e s0)
theorem s_key_ok {S:Fns} (hS:FnsOk S) (n:Nat):EntryOk Try.prog (e0 90 109 (s_key_raw S n)):=e0_ok fun _ _ hr=>gen_e prog_ok Try.func90 rfl hS (s_key_k S) (fun _ _ _ _ v=>by cases v <;> exact id) rfl rfl hr
inductive s_named_V where
  | e (s0:B82)
def s_named_at:s_named_V → Pth × List AV × Heap
  | .e s0=>([],startT Try.f104 [.ptr (some (0,0))],[b82 s0 0])
def s_named_st (S:Fns) (r:Bool × B82 → Prop) (l:s_named_V → Prop):s_named_V → Prop
  | .e s0=>cnd (s0.c4 == 0) (bn (S.s_now s0) fun x3=>an (okG 34 x3.1) (cnd (cI x3.1 0 == 1) (bn (S.s_now x3.2) fun x4=>an (okG 34 x4.1) (bn (S.t_Word (cS x4.1 1)) fun x5=>r ((!x5),x4.2))) (r (false,x3.2)))) (r (false,s0))
theorem s_named_k (S:Fns):KOk Try.prog [] 104 Try.f104 (enAll S) [] 1 s_named_at enc6 (s_named_st S):=by intro K g v; cases v <;> kernel_rfl
def s_named_raw (S:Fns) (n:Nat) (s0:B82):Option (Bool × B82):=rawN enc6 (s_named_st S) n (.e s0)
theorem s_named_ok {S:Fns} (hS:FnsOk S) (n:Nat):EntryOk Try.prog (e6 104 (s_named_raw S n)):=e6_ok fun _ _ hr=>gen_e prog_ok Try.func104 rfl hS (s_named_k S) (fun _ _ _ _ v=>by cases v <;> exact id) rfl rfl hr
inductive s_gathers_V where
  | e (a0:List UInt8)
def s_gathers_at:s_gathers_V → Pth × List AV × Heap
  | .e a0=>([],startT Try.f121 [.dat (.str a0)],[])
def s_gathers_st (S:Fns) (r:Bool → Prop) (l:s_gathers_V → Prop):s_gathers_V → Prop
  | .e a0=>cnd (a0 == [99,111,117,110,116]) (r true) (cnd (a0 == [115,117,109]) (r true) (cnd (a0 == [109,105,110]) (r true) (cnd (a0 == [109,97,120]) (r true) (r false))))
theorem s_gathers_k (S:Fns):KOk Try.prog [] 121 Try.f121 (enAll S) [] 0 s_gathers_at enc10 (s_gathers_st S):=by intro K g v; cases v <;> kernel_rfl
def s_gathers_raw (S:Fns) (n:Nat) (a0:List UInt8):Option (Bool):=rawN enc10 (s_gathers_st S) n (.e a0)
theorem s_gathers_ok {S:Fns} (hS:FnsOk S) (n:Nat):EntryOk Try.prog (e10 121 (s_gathers_raw S n)):=e10_ok fun _ _ hr=>gen_e prog_ok Try.func121 rfl hS (s_gathers_k S) (fun _ _ _ _ v=>by cases v <;> exact id) rfl rfl hr
inductive s_mark_V where
  | e (s0:B82) (a1:List UInt8)
def s_mark_at:s_mark_V → Pth × List AV × Heap
  | .e s0 a1=>([],startT Try.f82 [.ptr (some (0,0)),.dat (.str a1)],[b82 s0 0])
def s_mark_st (S:Fns) (r:Bool × B82 → Prop) (l:s_mark_V → Prop):s_mark_V → Prop
  | .e s0 a1=>bn (S.s_sees s0 4 a1) fun x2=>cnd x2.1 (bn (S.s_next x2.2) fun x3=>r (x2.1,x3)) (r (x2.1,x2.2))
theorem s_mark_k (S:Fns):KOk Try.prog [] 82 Try.f82 (enAll S) [] 1 s_mark_at enc4 (s_mark_st S):=by intro K g v; cases v <;> kernel_rfl
def s_mark_raw (S:Fns) (n:Nat) (s0:B82) (a1:List UInt8):Option (Bool × B82):=rawN enc4 (s_mark_st S) n (.e s0 a1)
theorem s_mark_ok {S:Fns} (hS:FnsOk S) (n:Nat):EntryOk Try.prog (e4 82 (s_mark_raw S n)):=e4_ok fun _ _ _ hr=>gen_e prog_ok Try.func82 rfl hS (s_mark_k S) (fun _ _ _ _ v=>by cases v <;> exact id) rfl rfl hr
inductive g_HasPrefix_V where
  | e (a0:List UInt8) (a1:List UInt8)
def g_HasPrefix_at:g_HasPrefix_V → Pth × List AV × Heap
  | .e a0 a1=>([],startT Try.f35 [.dat (.str a0),.dat (.str a1)],[])
def g_HasPrefix_st (S:Fns) (r:Bool → Prop) (l:g_HasPrefix_V → Prop):g_HasPrefix_V → Prop
  | .e a0 a1=>bn (S.g_sHasPrefix a0 a1) fun x1=>r x1
theorem g_HasPrefix_k (S:Fns):KOk Try.prog [] 35 Try.f35 (enAll S) [] 0 g_HasPrefix_at enc27 (g_HasPrefix_st S):=by intro K g v; cases v <;> kernel_rfl
def g_HasPrefix_raw (S:Fns) (n:Nat) (a0:List UInt8) (a1:List UInt8):Option (Bool):=rawN enc27 (g_HasPrefix_st S) n (.e a0 a1)
theorem g_HasPrefix_ok {S:Fns} (hS:FnsOk S) (n:Nat):EntryOk Try.prog (e27 35 (g_HasPrefix_raw S n)):=e27_ok fun _ _ _ hr=>gen_e prog_ok Try.func35 rfl hS (g_HasPrefix_k S) (fun _ _ _ _ v=>by cases v <;> exact id) rfl rfl hr
inductive s_must_V where
  | e (s0:B82) (a1:List UInt8)
def s_must_at:s_must_V → Pth × List AV × Heap
  | .e s0 a1=>([],startT Try.f84 [.ptr (some (0,0)),.dat (.str a1)],[b82 s0 0])
def s_must_st (S:Fns) (r:B82 → Prop) (l:s_must_V → Prop):s_must_V → Prop
  | .e s0 a1=>bn (S.s_word s0 a1) fun x2=>cnd (!x2.1) (bn (S.s_fail x2.2 10) fun x3=>r x3) (r x2.2)
theorem s_must_k (S:Fns):KOk Try.prog [] 84 Try.f84 (enAll S) [] 1 s_must_at enc5 (s_must_st S):=by intro K g v; cases v <;> kernel_rfl
def s_must_raw (S:Fns) (n:Nat) (s0:B82) (a1:List UInt8):Option (B82):=rawN enc5 (s_must_st S) n (.e s0 a1)
theorem s_must_ok {S:Fns} (hS:FnsOk S) (n:Nat):EntryOk Try.prog (e5 84 (s_must_raw S n)):=e5_ok fun _ _ _ hr=>gen_e prog_ok Try.func84 rfl hS (s_must_k S) (fun _ _ _ _ v=>by cases v <;> exact id) rfl rfl hr
inductive s_prod_V where
  | e (s0:B82)
def s_prod_at:s_prod_V → Pth × List AV × Heap
  | .e s0=>([],startT Try.f109 [.ptr (some (0,0))],[b82 s0 0])
def s_prod_st (S:Fns) (r:D × B82 → Prop) (l:s_prod_V → Prop):s_prod_V → Prop
  | .e s0=>bn (S.s_left_prod s0 (.slice [.str [42],.str [47],.str [37]])) fun x1=>an (okG 38 x1.1) (fl x1.1 [4,5] (r ((G 38 x1.1),x1.2)))
theorem s_prod_k (S:Fns):KOk Try.prog [] 109 Try.f109 (enAll S) [] 1 s_prod_at enc0 (s_prod_st S):=by intro K g v; cases v <;> kernel_rfl
def s_prod_raw (S:Fns) (n:Nat) (s0:B82):Option (D × B82):=rawN enc0 (s_prod_st S) n (.e s0)
theorem s_prod_ok {S:Fns} (hS:FnsOk S) (n:Nat):EntryOk Try.prog (e0 109 38 (s_prod_raw S n)):=e0_ok fun _ _ hr=>gen_e prog_ok Try.func109 rfl hS (s_prod_k S) (fun _ _ _ _ v=>by cases v <;> exact id) rfl rfl hr
inductive t_name1_V where
  | e (a0:Int)
def t_name1_at:t_name1_V → Pth × List AV × Heap
  | .e a0=>([],startT Try.f61 [.dat (.int .u8 a0)],[])
def t_name1_st (S:Fns) (r:Bool → Prop) (l:t_name1_V → Prop):t_name1_V → Prop
  | .e a0=>bn (S.t_letter a0) fun x2=>cnd x2 (r true) (bn (S.t_digit a0) fun x3=>r x3)
theorem t_name1_k (S:Fns):KOk Try.prog [] 61 Try.f61 (enAll S) [] 0 t_name1_at enc20 (t_name1_st S):=by intro K g v; cases v <;> kernel_rfl
def t_name1_raw (S:Fns) (n:Nat) (a0:Int):Option (Bool):=rawN enc20 (t_name1_st S) n (.e a0)
theorem t_name1_ok {S:Fns} (hS:FnsOk S) (n:Nat):EntryOk Try.prog (e20 61 (t_name1_raw S n)):=e20_ok fun _ _ hr=>gen_e prog_ok Try.func61 rfl hS (t_name1_k S) (fun _ _ _ _ v=>by cases v <;> exact id) rfl rfl hr
inductive s_leave_V where
  | e (s0:B82)
def s_leave_at:s_leave_V → Pth × List AV × Heap
  | .e s0=>([],startT Try.f55 [.ptr (some (0,0))],[b82 s0 0])
def s_leave_st (S:Fns) (r:B82 → Prop) (l:s_leave_V → Prop):s_leave_V → Prop
  | .e s0=>r (B82.mk s0.c0 s0.c1 (IntKind.i64.wrap (s0.c2 - 1)) s0.c3 s0.c4)
theorem s_leave_k (S:Fns):KOk Try.prog [] 55 Try.f55 (enAll S) [] 1 s_leave_at enc3 (s_leave_st S):=by intro K g v; cases v <;> kernel_rfl
def s_leave_raw (S:Fns) (n:Nat) (s0:B82):Option (B82):=rawN enc3 (s_leave_st S) n (.e s0)
theorem s_leave_ok {S:Fns} (hS:FnsOk S) (n:Nat):EntryOk Try.prog (e3 55 (s_leave_raw S n)):=e3_ok fun _ _ hr=>gen_e prog_ok Try.func55 rfl hS (s_leave_k S) (fun _ _ _ _ v=>by cases v <;> exact id) rfl rfl hr
end
end Go.Proofs.Ytfdcjngclelnhaa
