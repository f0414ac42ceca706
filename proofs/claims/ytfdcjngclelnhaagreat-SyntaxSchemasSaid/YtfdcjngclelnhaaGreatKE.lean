/- Part of a proof. -/
import Derived.Test.YtfdcjngclelnhaaGreatXS
import Derived.Test.YtfdcjngclelnhaaGreatKT
set_option linter.unusedSectionVars false
set_option linter.unusedSimpArgs false
set_option linter.unusedVariables false
namespace Go.Proofs.YtfdcjngclelnhaaGreat
open Go Go.RowKit
set_option maxRecDepth 100000
set_option maxHeartbeats 4000000
noncomputable section
inductive c_Exprs_V where
 | e (a0:List UInt8)
def c_Exprs_at:c_Exprs_V → Pth × List AV × Heap
 | .e a0=>([],startT Tryz.f3 [.dat (.str a0)],[])
def c_Exprs_st (S:Q9) (r:Bool → Prop) (l:c_Exprs_V → Prop):c_Exprs_V → Prop
 | .e a0=>cnd (decide (Int.ofNat a0.length > 21000)) (bn S.c_alive fun x5=>r x5) (bn (S.S_Expr a0) fun x6=>an (okG 26 x6.1) (fl x6.1 [4,5] (bn (S.r_Expr a0) fun x7=>an (okG 26 x7.1) (fl x7.1 [4,5] (an (okG 26 (G 26 x6.1)) (an (okG 26 (G 26 x7.1)) (bn (S.r_SameExpr (G 26 x6.1) (G 26 x7.1)) fun x8=>cnd x8 (cnd (x6.2.1 == x7.2.1) (cnd (x6.2.2 == x7.2.2) (bn S.c_alive fun x9=>r x9) (r false)) (r false)) (r false))))))))
theorem Qka (S:Q9):KOk Tryz.prog [] 3 Tryz.f3 (Qg S) [] 0 c_Exprs_at YB (c_Exprs_st S):=by intro K g v; cases v <;> kernel_rfl
def c_Exprs_raw (S:Q9) (n:Nat) (a0:List UInt8):Option (Bool):=rawN YB (c_Exprs_st S) n (.e a0)
theorem Qgr {S:Q9} (hS:Qf S) (n:Nat):EntryOk Tryz.prog (e10 3 (c_Exprs_raw S n)):=YP fun _ _ hr=>Qd Q7 Tryz.func3 rfl hS (Qka S) (fun _ _ _ _ v=>by cases v <;> exact id) rfl rfl hr
inductive c_Queries_V where
 | e (a0:List UInt8)
def c_Queries_at:c_Queries_V → Pth × List AV × Heap
 | .e a0=>([],startT Tryz.f4 [.dat (.str a0)],[])
def c_Queries_st (S:Q9) (r:Bool → Prop) (l:c_Queries_V → Prop):c_Queries_V → Prop
 | .e a0=>cnd (decide (Int.ofNat a0.length > 21000)) (bn S.c_alive fun x5=>r x5) (bn (S.S_Query a0) fun x6=>an (okG 38 x6.1) (fl x6.1 [2,3,4,5,6,7,9] (bn (S.r_Query a0) fun x7=>an (okG 38 x7.1) (fl x7.1 [2,3,4,5,6,7,9] (an (okG 38 (G 38 x6.1)) (an (okG 38 (G 38 x7.1)) (bn (S.r_SameQuery (G 38 x6.1) (G 38 x7.1)) fun x8=>cnd x8 (cnd (x6.2.1 == x7.2.1) (cnd (x6.2.2 == x7.2.2) (bn S.c_alive fun x9=>r x9) (r false)) (r false)) (r false))))))))
theorem Qet (S:Q9):KOk Tryz.prog [] 4 Tryz.f4 (Qg S) [] 0 c_Queries_at YB (c_Queries_st S):=by intro K g v; cases v <;> kernel_rfl
def c_Queries_raw (S:Q9) (n:Nat) (a0:List UInt8):Option (Bool):=rawN YB (c_Queries_st S) n (.e a0)
theorem Qcd {S:Q9} (hS:Qf S) (n:Nat):EntryOk Tryz.prog (e10 4 (c_Queries_raw S n)):=YP fun _ _ hr=>Qd Q7 Tryz.func4 rfl hS (Qet S) (fun _ _ _ _ v=>by cases v <;> exact id) rfl rfl hr
end
end Go.Proofs.YtfdcjngclelnhaaGreat
namespace Go.Proofs.YtfdcjngclelnhaaGreat
open Go Go.RowKit
set_option maxRecDepth 100000
set_option maxHeartbeats 4000000
noncomputable section
inductive s_typed_V where
 | e (s0:B105)
def s_typed_at:s_typed_V → Pth × List AV × Heap
 | .e s0=>([],startT Tryz.f124 [.ptr (some (0,0))],[b105 s0 0])
def s_typed_st (S:Q9) (r:Int × B105 → Prop) (l:s_typed_V → Prop):s_typed_V → Prop
 | .e s0=>bn (S.s_word s0 [105,110,116]) fun x4=>cnd x4.1 (r (2,x4.2)) (bn (S.s_word x4.2 [98,111,111,108]) fun x5=>cnd x5.1 (r (1,x5.2)) (bn (S.s_word x5.2 [116,101,120,116]) fun x6=>cnd x6.1 (r (3,x6.2)) (bn (S.s_fail x6.2 10) fun x7=>r (0,x7))))
theorem Qkr (S:Q9):KOk Tryz.prog [] 124 Tryz.f124 (Qg S) [] 1 s_typed_at Qdv (s_typed_st S):=by intro K g v; cases v <;> kernel_rfl
def s_typed_raw (S:Q9) (n:Nat) (s0:B105):Option (Int × B105):=rawN Qdv (s_typed_st S) n (.e s0)
theorem Qg5 {S:Q9} (hS:Qf S) (n:Nat):EntryOk Tryz.prog (e8 124 (s_typed_raw S n)):=QiX fun _ _ hr=>Qd Q7 Tryz.func124 rfl hS (Qkr S) (fun _ _ _ _ v=>by cases v <;> exact id) rfl rfl hr
inductive s_pair_V where
 | e (s0:B105)
def s_pair_at:s_pair_V → Pth × List AV × Heap
 | .e s0=>([],startT Tryz.f69 [.ptr (some (0,0))],[b105 s0 0])
def s_pair_st (S:Q9) (r:D × B105 → Prop) (l:s_pair_V → Prop):s_pair_V → Prop
 | .e s0=>bn (S.s_name s0) fun x2=>bn (S.s_name x2.2) fun x3=>r ((.agg [.str x2.1,.str x3.1]),x3.2)
theorem Qmq (S:Q9):KOk Tryz.prog [] 69 Tryz.f69 (Qg S) [] 1 s_pair_at Jj (s_pair_st S):=by intro K g v; cases v <;> kernel_rfl
def s_pair_raw (S:Q9) (n:Nat) (s0:B105):Option (D × B105):=rawN Jj (s_pair_st S) n (.e s0)
theorem Qlx {S:Q9} (hS:Qf S) (n:Nat):EntryOk Tryz.prog (e0 69 126 (s_pair_raw S n)):=QR fun _ _ hr=>Qd Q7 Tryz.func69 rfl hS (Qmq S) (fun _ _ _ _ v=>by cases v <;> exact id) rfl rfl hr
inductive s_edges_V where
 | e (s0:B105)
 | l0 (y0:List UInt8) (y1:B105)
 | l1 (y0:List UInt8) (y1:List D) (y2:Bool) (y3:B105) (y4:Nat)
def s_edges_at:s_edges_V → Pth × List AV × Heap
 | .e s0=>([],startT Tryz.f67 [.ptr (some (0,0))],[b105 s0 0])
 | .l0 y0 y1=>([0,1,0,1,1,1],mkT 24 [(0,.ptr (some (0,0))),(3,.dat (.str y0)),(4,.dat .nils),(5,.dat (.bool true))],[some (o105 y1 0)])
 | .l1 y0 y1 y2 y3 y4=>([0,1,0,1,1,1],mkT 24 [(0,.ptr (some (0,0))),(3,.dat (.str y0)),(4,.own (.tip 1) y1),(5,.dat (.bool y2))],[some (o105 y3 0),some (.tip 126 y4 2)])
def s_edges_st (S:Q9) (r:D × B105 → Prop) (l:s_edges_V → Prop):s_edges_V → Prop
 | .e s0=>bn (S.s_name s0) fun x10=>l (.l0 x10.1 x10.2)
 | .l0 y0 y1=>bn (S.s_need y1 [60]) fun x11=>bn (S.s_name x11) fun x12=>bn (S.s_sees x12.2 4 [60]) fun x13=>l (.l1 x12.1 [.agg [.str y0,.str x12.1]] x13.1 x13.2 1)
 | .l1 y0 y1 y2 y3 y4=>cnd y2 (bn (S.s_need y3 [60]) fun x14=>bn (S.s_name x14) fun x15=>an (y4 == y1.length) (an (roomOk (y4 + 1) 32) (bn (S.s_sees x15.2 4 [60]) fun x16=>l (.l1 x15.1 (y1 ++ [D.agg [.str y0,.str x15.1]]) x16.1 x16.2 (y4 + 1))))) (r ((.slice y1),y3))
theorem Qm0 (S:Q9):KOk Tryz.prog [] 67 Tryz.f67 (Qg S) [([0,1,0,1,1,1],[(1,2),(6,18)],false)] 1 s_edges_at Q9F (s_edges_st S):=by intro K g v; cases v <;> kernel_rfl
theorem Qku {S:Q9}:Mono (s_edges_st S):=fun _ _ _ hl v=>by cases v <;> (dsimp only [s_edges_st]; repeat' first | apply Qv | apply QF | (refine QE fun _=>?_) | (refine Qr ?_ ?_ fun _ _=>?_) | apply Qs | exact hl _ | exact id)
def s_edges_raw (S:Q9) (n:Nat) (s0:B105):Option (D × B105):=rawN Q9F (s_edges_st S) n (.e s0)
theorem Qho {S:Q9} (hS:Qf S) (n:Nat):EntryOk Tryz.prog (e48 67 (s_edges_raw S n)):=Qoq fun _ _ hr=>Qd Q7 Tryz.func67 rfl hS (Qm0 S) Qku rfl rfl hr
inductive s_col_V where
 | e (s0:B105)
def s_col_at:s_col_V → Pth × List AV × Heap
 | .e s0=>([],startT Tryz.f104 [.ptr (some (0,0))],[b105 s0 0])
def s_col_st (S:Q9) (r:D × B105 → Prop) (l:s_col_V → Prop):s_col_V → Prop
 | .e s0=>bn (S.s_name s0) fun x4=>bn (S.s_typed x4.2) fun x5=>bn (S.s_word x5.2 [110,117,108,108]) fun x6=>bn (S.s_name x6.2) fun x7=>r ((.agg [.str x4.1,.int .i64 x5.1,.bool x6.1,.str x7.1]),x7.2)
theorem Qqc (S:Q9):KOk Tryz.prog [] 104 Tryz.f104 (Qg S) [] 1 s_col_at Jj (s_col_st S):=by intro K g v; cases v <;> kernel_rfl
def s_col_raw (S:Q9) (n:Nat) (s0:B105):Option (D × B105):=rawN Jj (s_col_st S) n (.e s0)
theorem Qod {S:Q9} (hS:Qf S) (n:Nat):EntryOk Tryz.prog (e0 104 101 (s_col_raw S n)):=QR fun _ _ hr=>Qd Q7 Tryz.func104 rfl hS (Qqc S) (fun _ _ _ _ v=>by cases v <;> exact id) rfl rfl hr
inductive s_list_col_V where
 | e (s0:B105)
 | l0 (y0:List D) (y1:B105)
 | l1 (y0:List D) (y1:B105) (y2:Nat)
def s_list_col_at:s_list_col_V → Pth × List AV × Heap
 | .e s0=>([],startT Tryz.f103 [.ptr (some (0,0)),.func (.func 104) [.ptr (some (0,0))] []],[b105 s0 0])
 | .l0 y0 y1=>([0,0,1,1],mkT 17 [(0,.ptr (some (0,0))),(1,.func (.func 104) [.ptr (some (0,0))] []),(5,.own .full y0)],[some (o105 y1 0)])
 | .l1 y0 y1 y2=>([0,0,1,1],mkT 17 [(0,.ptr (some (0,0))),(1,.func (.func 104) [.ptr (some (0,0))] []),(5,.own (.tip 1) y0)],[some (o105 y1 0),some (.tip 101 y2 4)])
def s_list_col_st (S:Q9) (r:D × B105 → Prop) (l:s_list_col_V → Prop):s_list_col_V → Prop
 | .e s0=>bn (S.s_col s0) fun x5=>an (okG 101 x5.1) (l (.l0 [G 101 x5.1] x5.2))
 | .l0 y0 y1=>bn (S.s_mark y1 [44]) fun x6=>cnd x6.1 (bn (S.s_col x6.2) fun x7=>an (okG 101 x7.1) (an (sized 4 y0) (an (roomOk (y0.length + 1) 48) (l (.l1 (y0 ++ [G 101 x7.1]) x7.2 (y0.length + 1)))))) (r ((.slice y0),x6.2))
 | .l1 y0 y1 y2=>bn (S.s_mark y1 [44]) fun x8=>cnd x8.1 (bn (S.s_col x8.2) fun x9=>an (okG 101 x9.1) (an (y2 == y0.length) (an (roomOk (y2 + 1) 48) (l (.l1 (y0 ++ [G 101 x9.1]) x9.2 (y2 + 1)))))) (r ((.slice y0),x8.2))
theorem Qd8 (S:Q9):KOk Tryz.prog [] 103 Tryz.f103 (Qg S) [([0,0,1,1],[(2,3),(6,11)],false)] 1 s_list_col_at Hh (s_list_col_st S):=by intro K g v; cases v <;> kernel_rfl
theorem Qcp {S:Q9}:Mono (s_list_col_st S):=fun _ _ _ hl v=>by cases v <;> (dsimp only [s_list_col_st]; repeat' first | apply Qv | apply QF | (refine QE fun _=>?_) | (refine Qr ?_ ?_ fun _ _=>?_) | apply Qs | exact hl _ | exact id)
def s_list_col_raw (S:Q9) (n:Nat) (s0:B105):Option (D × B105):=rawN Hh (s_list_col_st S) n (.e s0)
theorem Qa8 {S:Q9} (hS:Qf S) (n:Nat):EntryOk Tryz.prog (e15 103 104 (s_list_col_raw S n)):=Q00 fun _ _ hr=>Qd Q7 Tryz.func103 rfl hS (Qd8 S) Qcp rfl rfl hr
inductive r_SamePairs_V where
 | e (a0:D) (a1:D)
 | l0 (y0:D) (y1:D) (y2:Int)
def r_SamePairs_at:r_SamePairs_V → Pth × List AV × Heap
 | .e a0 a1=>([],startT Tryz.f41 [.dat a0,.dat a1],[])
 | .l0 y0 y1 y2=>([0,1,0,1,1],mkT 41 [(0,.dat y0),(1,.dat y1),(5,.dat (.int .i64 y2))],[])
def r_SamePairs_st (S:Q9) (r:Bool → Prop) (l:r_SamePairs_V → Prop):r_SamePairs_V → Prop
 | .e a0 a1=>bn (asL a0) fun x20=>bn (asL a1) fun x21=>cnd (Int.ofNat x20.length != Int.ofNat x21.length) (r false) (l (.l0 a0 a1 0))
 | .l0 y0 y1 y2=>bn (asL y0) fun x22=>cnd (decide (y2 < Int.ofNat x22.length)) (bn (asL y0) fun x23=>bn (atD x23 y2) fun x24=>an (okG 126 x24) (bn (asL y1) fun x25=>bn (atD x25 y2) fun x26=>an (okG 126 x26) (cnd (!cS x24 0 == cS x26 0) (r false) (bn (asL y0) fun x27=>bn (atD x27 y2) fun x28=>an (okG 126 x28) (bn (asL y1) fun x29=>bn (atD x29 y2) fun x30=>an (okG 126 x30) (cnd (!cS x28 1 == cS x30 1) (r false) (l (.l0 y0 y1 (IntKind.i64.wrap (y2 + 1)))))))))) (r true)
theorem Q9V (S:Q9):KOk Tryz.prog [] 41 Tryz.f41 (Qg S) [([0,1,0,1,1],[(2,3),(6,35)],false)] 0 r_SamePairs_at Hl (r_SamePairs_st S):=by intro K g v; cases v <;> kernel_rfl
theorem Q9Q {S:Q9}:Mono (r_SamePairs_st S):=fun _ _ _ hl v=>by cases v <;> (dsimp only [r_SamePairs_st]; repeat' first | apply Qv | apply QF | (refine QE fun _=>?_) | (refine Qr ?_ ?_ fun _ _=>?_) | apply Qs | exact hl _ | exact id)
def r_SamePairs_raw (S:Q9) (n:Nat) (a0:D) (a1:D):Option (Bool):=rawN Hl (r_SamePairs_st S) n (.e a0 a1)
theorem Q86 {S:Q9} (hS:Qf S) (n:Nat):EntryOk Tryz.prog (e30 41 (r_SamePairs_raw S n)):=Q0d fun _ _ _ hr=>Qd Q7 Tryz.func41 rfl hS (Q9V S) Q9Q rfl rfl hr
inductive s_table_V where
 | e (s0:B105)
 | l0 (y0:B105) (y1:List UInt8) (y2:List UInt8) (y3:D) (y4:D) (y5:Nat)
def s_table_at:s_table_V → Pth × List AV × Heap
 | .e s0=>([],startT Tryz.f68 [.ptr (some (0,0))],[b105 s0 0])
 | .l0 y0 y1 y2 y3 y4 y5=>([1,1,1,1,1,1,1,1],mkT 44 [(0,.ptr (some (0,0))),(2,.ptr (some (1,0))),(3,.ptr (some (2,0)))],[some (o105 y0 0),some (.cells 99 [.dat (.str []),.dat (.str []),.dat .nils,.dat .nils,.dat (.str []),.dat .nils] 0),some (.cells 99 [.dat (.str y1),.dat (.str y2),.dat y3,.dat y4,.dat (.str []),.dat .nils] y5)])
def s_table_st (S:Q9) (r:D × B105 → Prop) (l:s_table_V → Prop):s_table_V → Prop
 | .e s0=>bn (S.s_name s0) fun x14=>bn (S.s_must x14.2 [114,111,119,115]) fun x15=>bn (S.s_name x15) fun x16=>bn (S.s_need x16.2 [40]) fun x17=>bn (S.s_list_col x17) fun x18=>an x18.1.flat (an x18.1.flat (bn (S.s_need x18.2 [41]) fun x19=>bn (S.s_word x19 [107,101,121]) fun x20=>cnd x20.1 (bn (S.s_need x20.2 [40]) fun x21=>bn (S.s_list_name x21) fun x22=>an x22.1.flat (an x22.1.flat (bn (S.s_need x22.2 [41]) fun x23=>l (.l0 x23 x14.1 x16.1 x18.1 x22.1 9)))) (l (.l0 x20.2 x14.1 x16.1 x18.1 .nils 8))))
 | .l0 y0 y1 y2 y3 y4 y5=>bn (S.s_word y0 [104,105,100,101]) fun x24=>cnd x24.1 (bn (S.s_name x24.2) fun x25=>bn (S.s_must x25.2 [119,104,101,110]) fun x26=>bn (S.s_expr x26) fun x27=>an (okG 26 x27.1) (an y3.flat (an y4.flat (r ((.agg [.str y1,.str y2,y3,y4,.str x25.1,D.slice [G 26 x27.1]]),x27.2))))) (an y3.flat (an y4.flat (r ((.agg [.str y1,.str y2,y3,y4,.str [],.nils]),x24.2))))
theorem QlR (S:Q9):KOk Tryz.prog [] 68 Tryz.f68 (Qg S) [([1,1,1,1,1,1,1,1],[(1,1),(4,40)],true)] 1 s_table_at Jj (s_table_st S):=by intro K g v; cases v <;> kernel_rfl
theorem Qmg {S:Q9}:Mono (s_table_st S):=fun _ _ _ hl v=>by cases v <;> (dsimp only [s_table_st]; repeat' first | apply Qv | apply QF | (refine QE fun _=>?_) | apply Qs | exact hl _ | exact id)
def s_table_raw (S:Q9) (n:Nat) (s0:B105):Option (D × B105):=rawN Jj (s_table_st S) n (.e s0)
theorem QhR {S:Q9} (hS:Qf S) (n:Nat):EntryOk Tryz.prog (e0 68 99 (s_table_raw S n)):=QR fun _ _ hr=>Qd Q7 Tryz.func68 rfl hS (QlR S) Qmg rfl rfl hr
inductive s_Schema1_V where
 | e (s0:B105)
def s_Schema1_at:s_Schema1_V → Pth × List AV × Heap
 | .e s0=>([],startT Tryz.f38 [.ptr (some (0,0))],[b105 s0 0])
def s_Schema1_st (S:Q9) (r:D × B105 → Prop) (l:s_Schema1_V → Prop):s_Schema1_V → Prop
 | .e s0=>bn (S.s_schema s0) fun x1=>an (okG 58 x1.1) (fl x1.1 [0,1,2,3,4] (r ((G 58 x1.1),x1.2)))
theorem Qf6 (S:Q9):KOk Tryz.prog [] 38 Tryz.f38 (Qg S) [] 1 s_Schema1_at Jj (s_Schema1_st S):=by intro K g v; cases v <;> kernel_rfl
def s_Schema1_raw (S:Q9) (n:Nat) (s0:B105):Option (D × B105):=rawN Jj (s_Schema1_st S) n (.e s0)
theorem Qce {S:Q9} (hS:Qf S) (n:Nat):EntryOk Tryz.prog (e0 38 58 (s_Schema1_raw S n)):=QR fun _ _ hr=>Qd Q7 Tryz.func38 rfl hS (Qf6 S) (fun _ _ _ _ v=>by cases v <;> exact id) rfl rfl hr
inductive s_readS_V where
 | e (a0:List UInt8) (a1:Int)
def s_readS_at:s_readS_V → Pth × List AV × Heap
 | .e a0 a1=>([],startT Tryz.f37 [.dat (.str a0),.dat (.int .i64 a1),.func (.func 38) [] []],[])
def s_readS_st (S:Q9) (r:D × Int × Int → Prop) (l:s_readS_V → Prop):s_readS_V → Prop
 | .e a0 a1=>bn (S.t_Scan a0) fun x4=>cnd (x4.2.2 != 0) (r ((.agg [.nils,.nils,.nils,.nils,.nils,.int .i64 0]),x4.2.1,x4.2.2)) (an x4.1.flat (bn (S.s_Schema1 (B105.mk x4.1 0 a1 0 0)) fun x5=>an (okG 58 x5.1) (fl x5.1 [0,1,2,3,4] (bn (S.s_now x5.2) fun x6=>an (okG 107 x6.1) (cnd (cI x6.1 0 != 0) (bn (S.s_fail x6.2 10) fun x7=>cnd (x7.c4 != 0) (r ((.agg [.nils,.nils,.nils,.nils,.nils,.int .i64 0]),x7.c3,x7.c4)) (fl x5.1 [0,1,2,3,4] (r ((G 58 x5.1),0,0)))) (cnd (x6.2.c4 != 0) (r ((.agg [.nils,.nils,.nils,.nils,.nils,.int .i64 0]),x6.2.c3,x6.2.c4)) (fl x5.1 [0,1,2,3,4] (r ((G 58 x5.1),0,0)))))))))
theorem Qjw (S:Q9):KOk Tryz.prog [] 37 Tryz.f37 (Qg S) [] 0 s_readS_at Q1E (s_readS_st S):=by intro K g v; cases v <;> kernel_rfl
def s_readS_raw (S:Q9) (n:Nat) (a0:List UInt8) (a1:Int):Option (D × Int × Int):=rawN Q1E (s_readS_st S) n (.e a0 a1)
theorem QgA {S:Q9} (hS:Qf S) (n:Nat):EntryOk Tryz.prog (e16 37 38 58 (s_readS_raw S n)):=Q4u fun _ _ _ hr=>Qd Q7 Tryz.func37 rfl hS (Qjw S) (fun _ _ _ _ v=>by cases v <;> exact id) rfl rfl hr
inductive S_Schema_V where
 | e (a0:List UInt8)
def S_Schema_at:S_Schema_V → Pth × List AV × Heap
 | .e a0=>([],startT Tryz.f17 [.dat (.str a0)],[])
def S_Schema_st (S:Q9) (r:D × Int × Int → Prop) (l:S_Schema_V → Prop):S_Schema_V → Prop
 | .e a0=>bn (S.s_readS a0 1) fun x1=>an (okG 58 x1.1) (fl x1.1 [0,1,2,3,4] (r ((G 58 x1.1),x1.2.1,x1.2.2)))
theorem QhK (S:Q9):KOk Tryz.prog [] 17 Tryz.f17 (Qg S) [] 0 S_Schema_at YC (S_Schema_st S):=by intro K g v; cases v <;> kernel_rfl
def S_Schema_raw (S:Q9) (n:Nat) (a0:List UInt8):Option (D × Int × Int):=rawN YC (S_Schema_st S) n (.e a0)
theorem Qex {S:Q9} (hS:Qf S) (n:Nat):EntryOk Tryz.prog (e17 17 58 (S_Schema_raw S n)):=YT fun _ _ hr=>Qd Q7 Tryz.func17 rfl hS (QhK S) (fun _ _ _ _ v=>by cases v <;> exact id) rfl rfl hr
inductive r_Schema_V where
 | e (a0:List UInt8)
def r_Schema_at:r_Schema_V → Pth × List AV × Heap
 | .e a0=>([],startT Tryz.f18 [.dat (.str a0)],[])
def r_Schema_st (S:Q9) (r:D × Int × Int → Prop) (l:r_Schema_V → Prop):r_Schema_V → Prop
 | .e a0=>bn (S.r_New a0 1) fun x3=>cnd (x3.c4 != 0) (r ((.agg [.nils,.nils,.nils,.nils,.nils,.int .i64 0]),x3.c3,x3.c4)) (bn (S.p_Schema x3) fun x4=>an (okG 58 x4.1) (fl x4.1 [0,1,2,3,4] (bn (S.p_End x4.2) fun x5=>cnd (x5.2.1 != 0) (r ((.agg [.nils,.nils,.nils,.nils,.nils,.int .i64 0]),x5.1,x5.2.1)) (fl x4.1 [0,1,2,3,4] (r ((G 58 x4.1),x5.1,x5.2.1))))))
theorem QhA (S:Q9):KOk Tryz.prog [] 18 Tryz.f18 (Qg S) [] 0 r_Schema_at YC (r_Schema_st S):=by intro K g v; cases v <;> kernel_rfl
def r_Schema_raw (S:Q9) (n:Nat) (a0:List UInt8):Option (D × Int × Int):=rawN YC (r_Schema_st S) n (.e a0)
theorem Qeg {S:Q9} (hS:Qf S) (n:Nat):EntryOk Tryz.prog (e17 18 58 (r_Schema_raw S n)):=YT fun _ _ hr=>Qd Q7 Tryz.func18 rfl hS (QhA S) (fun _ _ _ _ v=>by cases v <;> exact id) rfl rfl hr
inductive p_table_V where
 | e (s0:B74)
 | l0 (y0:B74) (y1:List UInt8) (y2:List UInt8)
 | l1 (y0:Bool) (y1:B74) (y2:List UInt8) (y3:List UInt8) (y4:Nat) (y5:List D) (y6:Nat)
 | l2 (y0:B74) (y1:List UInt8) (y2:List UInt8) (y3:D) (y4:D) (y5:Nat)
def p_table_at:p_table_V → Pth × List AV × Heap
 | .e s0=>([],startT Tryz.f74 [.ptr (some (0,0))],[b74 s0 0])
 | .l0 y0 y1 y2=>([0,0,1,1,1,1,1,1],mkT 60 [(0,.ptr (some (0,0))),(2,.ptr (some (1,0))),(3,.ptr (some (2,0))),(4,.dat (.bool true))],[some (o74 y0 0),some (.cells 99 [.dat (.str []),.dat (.str []),.dat .nils,.dat .nils,.dat (.str []),.dat .nils] 0),some (.cells 99 [.dat (.str y1),.dat (.str y2),.dat .nils,.dat .nils,.dat (.str []),.dat .nils] 7)])
 | .l1 y0 y1 y2 y3 y4 y5 y6=>([0,0,1,1,1,1,1,1],mkT 60 [(0,.ptr (some (0,0))),(2,.ptr (some (1,0))),(3,.ptr (some (2,0))),(4,.dat (.bool y0))],[some (o74 y1 0),some (.cells 99 [.dat (.str []),.dat (.str []),.dat .nils,.dat .nils,.dat (.str []),.dat .nils] 0),some (.cells 99 [.dat (.str y2),.dat (.str y3),.own (.at 2 2 y4 101) y5,.dat .nils,.dat (.str []),.dat .nils] y6)])
 | .l2 y0 y1 y2 y3 y4 y5=>([1,1,1,1,1,1,1,1,1],mkT 60 [(0,.ptr (some (0,0))),(2,.ptr (some (1,0))),(3,.ptr (some (2,0)))],[some (o74 y0 0),some (.cells 99 [.dat (.str []),.dat (.str []),.dat .nils,.dat .nils,.dat (.str []),.dat .nils] 0),some (.cells 99 [.dat (.str y1),.dat (.str y2),.dat y3,.dat y4,.dat (.str []),.dat .nils] y5)])
def p_table_st (S:Q9) (r:D × B74 → Prop) (l:p_table_V → Prop):p_table_V → Prop
 | .e s0=>bn (S.p_name s0) fun x33=>bn (S.p_must x33.2 [114,111,119,115]) fun x34=>bn (S.p_name x34) fun x35=>bn (S.p_must x35.2 [40]) fun x36=>l (.l0 x36 x33.1 x35.1)
 | .l0 y0 y1 y2=>bn (S.p_name y0) fun x37=>bn (S.p_ty x37.2) fun x38=>bn (S.p_take x38.2 [110,117,108,108]) fun x39=>bn (S.p_name x39.2) fun x40=>bn (S.p_take x40.2 [44]) fun x41=>l (.l1 x41.1 x41.2 y1 y2 7 [.agg [.str x37.1,.int .i64 x38.1,.bool x39.1,.str x40.1]] 8)
 | .l1 y0 y1 y2 y3 y4 y5 y6=>cnd y0 (bn (S.p_name y1) fun x42=>bn (S.p_ty x42.2) fun x43=>bn (S.p_take x43.2 [110,117,108,108]) fun x44=>bn (S.p_name x44.2) fun x45=>an (y4.beq y4) (an (y5.length.beq y5.length) (cnd y5.isEmpty False (an (sized 4 y5) (an (roomOk (y5.length + 1) 48) (an ((y5.length + 1).beq (y5 ++ [D.agg [.str x42.1,.int .i64 x43.1,.bool x44.1,.str x45.1]]).length) (bn (S.p_take x45.2 [44]) fun x46=>l (.l1 x46.1 x46.2 y2 y3 y6 (y5 ++ [D.agg [.str x42.1,.int .i64 x43.1,.bool x44.1,.str x45.1]]) (y6 + 1))))))))) (bn (S.p_must y1 [41]) fun x47=>bn (S.p_take x47 [107,101,121]) fun x48=>cnd x48.1 (bn (S.p_must x48.2 [40]) fun x49=>bn (S.p_names x49) fun x50=>an x50.1.flat (an x50.1.flat (bn (S.p_must x50.2 [41]) fun x51=>l (.l2 x51 y2 y3 (.slice y5) x50.1 (y6 + 1))))) (l (.l2 x48.2 y2 y3 (.slice y5) .nils y6)))
 | .l2 y0 y1 y2 y3 y4 y5=>bn (S.p_take y0 [104,105,100,101]) fun x52=>cnd x52.1 (bn (S.p_name x52.2) fun x53=>bn (S.p_must x53.2 [119,104,101,110]) fun x54=>bn (S.p_Expr x54) fun x55=>an (okG 26 x55.1) (an y3.flat (an y4.flat (r ((.agg [.str y1,.str y2,y3,y4,.str x53.1,D.slice [G 26 x55.1]]),x55.2))))) (an y3.flat (an y4.flat (r ((.agg [.str y1,.str y2,y3,y4,.str [],.nils]),x52.2))))
theorem Qlw (S:Q9):KOk Tryz.prog [] 74 Tryz.f74 (Qg S) [([0,0,1,1,1,1,1,1],[(1,1),(5,55)],false),([1,1,1,1,1,1,1,1,1],[(1,1),(4,56)],true)] 1 p_table_at Jt (p_table_st S):=by intro K g v; cases v <;> kernel_rfl
theorem QjH {S:Q9}:Mono (p_table_st S):=fun _ _ _ hl v=>by cases v <;> (dsimp only [p_table_st]; repeat' first | apply Qv | apply QF | (refine QE fun _=>?_) | (refine Qr ?_ ?_ fun _ _=>?_) | apply Qs | exact hl _ | exact id)
def p_table_raw (S:Q9) (n:Nat) (s0:B74):Option (D × B74):=rawN Jt (p_table_st S) n (.e s0)
theorem QgR {S:Q9} (hS:Qf S) (n:Nat):EntryOk Tryz.prog (e25 74 99 (p_table_raw S n)):=Je fun _ _ hr=>Qd Q7 Tryz.func74 rfl hS (Qlw S) QjH rfl rfl hr
inductive c_Schemas_V where
 | e (a0:List UInt8)
def c_Schemas_at:c_Schemas_V → Pth × List AV × Heap
 | .e a0=>([],startT Tryz.f6 [.dat (.str a0)],[])
def c_Schemas_st (S:Q9) (r:Bool → Prop) (l:c_Schemas_V → Prop):c_Schemas_V → Prop
 | .e a0=>cnd (decide (Int.ofNat a0.length > 21000)) (bn S.c_alive fun x5=>r x5) (bn (S.S_Schema a0) fun x6=>an (okG 58 x6.1) (fl x6.1 [0,1,2,3,4] (bn (S.r_Schema a0) fun x7=>an (okG 58 x7.1) (fl x7.1 [0,1,2,3,4] (an (okG 58 (G 58 x6.1)) (an (okG 58 (G 58 x7.1)) (bn (S.r_SameSchema (G 58 x6.1) (G 58 x7.1)) fun x8=>cnd x8 (cnd (x6.2.1 == x7.2.1) (cnd (x6.2.2 == x7.2.2) (bn S.c_alive fun x9=>r x9) (r false)) (r false)) (r false))))))))
theorem Q6e (S:Q9):KOk Tryz.prog [] 6 Tryz.f6 (Qg S) [] 0 c_Schemas_at YB (c_Schemas_st S):=by intro K g v; cases v <;> kernel_rfl
def c_Schemas_raw (S:Q9) (n:Nat) (a0:List UInt8):Option (Bool):=rawN YB (c_Schemas_st S) n (.e a0)
theorem Qcn {S:Q9} (hS:Qf S) (n:Nat):EntryOk Tryz.prog (e10 6 (c_Schemas_raw S n)):=YP fun _ _ hr=>Qd Q7 Tryz.func6 rfl hS (Q6e S) (fun _ _ _ _ v=>by cases v <;> exact id) rfl rfl hr
end
end Go.Proofs.YtfdcjngclelnhaaGreat
namespace Go.Proofs.YtfdcjngclelnhaaGreat
open Go Go.RowKit
set_option maxRecDepth 100000
set_option maxHeartbeats 4000000
noncomputable section
inductive r_SameSchema_V where
 | e (a0:D) (a1:D)
 | l0 (y0:Int) (y1:D) (y2:D)
 | l1 (y0:Int) (y1:Int) (y2:D) (y3:D) (y4:D) (y5:D)
def r_SameSchema_at:r_SameSchema_V → Pth × List AV × Heap
 | .e a0 a1=>([],startT Tryz.f19 [.dat (G 58 a0),.dat (G 58 a1)],[])
 | .l0 y0 y1 y2=>([0,1,0,1,1],mkT 134 [(2,.ptr (some (0,0))),(3,.ptr (some (1,0))),(5,.dat (.int .i64 y0))],[some (sbx 58 y1 0),some (sbx 58 y2 0)])
 | .l1 y0 y1 y2 y3 y4 y5=>([0,1,1,1,0,0,1,0,0,1,0,1,1],mkT 134 [(2,.ptr (some (0,0))),(3,.ptr (some (1,0))),(5,.dat (.int .i64 y0)),(6,.ptr (some (2,0))),(7,.ptr (some (3,0))),(8,.dat (.int .i64 y1))],[some (sbx 58 y2 0),some (sbx 58 y3 0),some (sbx 99 y4 6),some (sbx 99 y5 6)])
def r_SameSchema_st (S:Q9) (r:Bool → Prop) (l:r_SameSchema_V → Prop):r_SameSchema_V → Prop
 | .e a0 a1=>bn (S.r_SameTexts (cel a0 0) (cel a1 0)) fun x36=>cnd (!x36) (r false) (bn (S.r_SamePairs (cel a0 1) (cel a1 1)) fun x37=>cnd (!x37) (r false) (bn (S.r_SamePairs (cel a0 3) (cel a1 3)) fun x38=>cnd (!x38) (r false) (bn (S.r_SamePairs (cel a0 4) (cel a1 4)) fun x39=>cnd (!x39) (r false) (cnd (cI a0 5 != cI a1 5) (r false) (bn (asL (cel a0 2)) fun x40=>bn (asL (cel a1 2)) fun x41=>cnd (Int.ofNat x40.length != Int.ofNat x41.length) (r false) (l (.l0 0 a0 a1)))))))
 | .l0 y0 y1 y2=>bn (asL (cel y1 2)) fun x42=>cnd (decide (y0 < Int.ofNat x42.length)) (bn (asL (cel y1 2)) fun x43=>bn (atD x43 y0) fun x44=>an (okG 99 x44) (bn (asL (cel y2 2)) fun x45=>bn (atD x45 y0) fun x46=>an (okG 99 x46) (fl x44 [2,3,5] (fl x46 [2,3,5] (cnd (!cS x44 0 == cS x46 0) (r false) (cnd (!cS x44 1 == cS x46 1) (r false) (bn (asL (cel x44 2)) fun x47=>bn (asL (cel x46 2)) fun x48=>cnd (Int.ofNat x47.length != Int.ofNat x48.length) (r false) (bn (S.r_SameTexts (cel x44 3) (cel x46 3)) fun x49=>cnd (!x49) (r false) (cnd (!cS x44 4 == cS x46 4) (r false) (bn (S.r_SameExprs (cel x44 5) (cel x46 5)) fun x50=>cnd (!x50) (r false) (l (.l1 y0 0 y1 y2 x44 x46)))))))))))) (r true)
 | .l1 y0 y1 y2 y3 y4 y5=>bn (asL (cel y4 2)) fun x51=>cnd (decide (y1 < Int.ofNat x51.length)) (bn (asL (cel y4 2)) fun x52=>bn (atD x52 y1) fun x53=>an (okG 101 x53) (bn (asL (cel y5 2)) fun x54=>bn (atD x54 y1) fun x55=>an (okG 101 x55) (bn (eqA Tryz.prog 101 (.dat (G 101 x53)) (.dat (G 101 x55))) fun x56=>cnd (!x56) (r false) (l (.l1 y0 (IntKind.i64.wrap (y1 + 1)) y2 y3 y4 y5))))) (l (.l0 (IntKind.i64.wrap (y0 + 1)) y2 y3))
theorem Q8s (S:Q9):KOk Tryz.prog [] 19 Tryz.f19 (Qg S) [([0,1,0,1,1],[(0,2),(4,1),(6,128)],false),([0,1,1,1,0,0,1,0,0,1,0,1,1],[(0,2),(4,1),(9,125)],false)] 0 r_SameSchema_at Q1V (r_SameSchema_st S):=by intro K g v; cases v <;> kernel_rfl
theorem Q7P {S:Q9}:Mono (r_SameSchema_st S):=fun _ _ _ hl v=>by cases v <;> (dsimp only [r_SameSchema_st]; repeat' first | apply Qv | apply QF | (refine QE fun _=>?_) | (refine Qr ?_ ?_ fun _ _=>?_) | apply Qs | exact hl _ | exact id)
def r_SameSchema_raw (S:Q9) (n:Nat) (a0:D) (a1:D):Option (Bool):=rawN Q1V (r_SameSchema_st S) n (.e a0 a1)
theorem Q6v {S:Q9} (hS:Qf S) (n:Nat):EntryOk Tryz.prog (e29 19 58 58 (r_SameSchema_raw S n)):=Q5j fun _ _ _ hr=>Qd Q7 Tryz.func19 rfl hS (Q8s S) Q7P rfl rfl hr
end
end Go.Proofs.YtfdcjngclelnhaaGreat
namespace Go.Proofs.YtfdcjngclelnhaaGreat
open Go Go.RowKit
set_option maxRecDepth 100000
set_option maxHeartbeats 4000000
noncomputable section
inductive GN where
 | n
 | o (es:List D) (w:Nat)
def gnc {Z:Type} (g:GN) (a:Z) (b:List D → Nat → Z):Z:=match g with
 | .n=>a
 | .o es w=>b es w
def gnA (off e:Nat) (g:GN):AV:=match g with
 | .n=>.dat .nils
 | .o es w=>.own (.at 2 off w e) es
def gnD (g:GN):D:=match g with
 | .n=>.nils
 | .o es _=>.slice es
theorem Qcr {g:GN} {a a':Prop} {b b':List D → Nat → Prop} (ha:a → a') (hb:∀ es w,b es w → b' es w):gnc g a b → gnc g a' b':=by
 cases g with
 | n=>exact ha
 | o es w=>exact hb es w
def app1 (g:GN) (sz bytes:Nat) (x:D) (ver:Nat) (K:GN → Prop):Prop :=
 gnc g (K (.o [x] ver)) fun es w=>an (w.beq w) (an (es.length.beq es.length) (cnd es.isEmpty False (an (sized sz es) (an (roomOk (es.length + 1) bytes) (an ((es.length + 1).beq (es ++ [x]).length) (K (.o (es ++ [x]) ver)))))))
def appN (g:GN) (sz:Nat) (agg:Bool) (bytes:Nat) (x:D) (ver:Nat) (K:GN → Prop):Prop :=
 moreK sz agg (.dat x) fun xs=>cnd xs.isEmpty (gnc g (K .n) fun es w=>an (Nat.beq w w && Nat.beq es.length es.length) (K (.o es w)))
  (gnc g (an (roomOk xs.length bytes) (an (xs.length.beq xs.length) (K (.o xs ver)))) fun es w=>an (w.beq w) (an (es.length.beq es.length) (cnd es.isEmpty False (an (sized sz es) (an (roomOk (es.length + xs.length) bytes) (an ((es.length + xs.length).beq (es ++ xs).length) (K (.o (es ++ xs) ver))))))))
inductive s_schema_V where
 | e (s0:B105)
 | l0 (y0:B105) (g0 g1 g2 g3 g4:GN) (lim:Int) (ver:Nat)
def schCells (g0 g1 g2 g3 g4:GN) (lim:Int):List AV:=[gnA 0 9 g0,gnA 1 126 g1,gnA 2 99 g2,gnA 3 126 g3,gnA 4 126 g4,.dat (.int .i64 lim)]
def s_schema_at:s_schema_V → Pth × List AV × Heap
 | .e s0=>([],startT Tryz.f39 [.ptr (some (0,0))],[b105 s0 0])
 | .l0 y0 g0 g1 g2 g3 g4 lim ver=>([0,0,1,1],mkT 76 [(0,.ptr (some (0,0))),(2,.ptr (some (1,0))),(3,.ptr (some (2,0)))],[some (o105 y0 0),some (.cells 58 [.dat .nils,.dat .nils,.dat .nils,.dat .nils,.dat .nils,.dat (.int .i64 0)] 0),some (.cells 58 (schCells g0 g1 g2 g3 g4 lim) ver)])
def schD (g0 g1 g2 g3 g4:GN) (lim:Int):D:=.agg [gnD g0,gnD g1,gnD g2,gnD g3,gnD g4,.int .i64 lim]
def s_schema_st (S:Q9) (r:D × B105 → Prop) (l:s_schema_V → Prop):s_schema_V → Prop
 | .e s0=>l (.l0 s0 .n .n .n .n .n 0 0)
 | .l0 y0 g0 g1 g2 g3 g4 lim ver=>cnd (y0.c4 == 0) (bn (S.s_now y0) fun x1=>an (okG 107 x1.1) (cnd (cI x1.1 0 != 0)
   (bn (S.s_word x1.2 [108,101,118,101,108,115]) fun x2=>cnd x2.1 (bn (S.s_list_name x2.2) fun x3=>appN g0 1 false 16 x3.1 ver fun g=>bn (S.s_need x3.2 [59]) fun x4=>l (.l0 x4 g g1 g2 g3 g4 lim (ver + 1)))
   (bn (S.s_word x2.2 [111,114,100,101,114]) fun x5=>cnd x5.1 (bn (S.s_edges x5.2) fun x6=>appN g1 2 true 32 x6.1 ver fun g=>bn (S.s_need x6.2 [59]) fun x7=>l (.l0 x7 g0 g g2 g3 g4 lim (ver + 1)))
   (bn (S.s_word x5.2 [116,97,98,108,101]) fun x8=>cnd x8.1 (bn (S.s_table x8.2) fun x9=>an (okG 99 x9.1) (fl x9.1 [2,3,5] (app1 g2 6 120 (G 99 x9.1) ver fun g=>bn (S.s_need x9.2 [59]) fun x10=>l (.l0 x10 g0 g1 g g3 g4 lim (ver + 1)))))
   (bn (S.s_word x8.2 [99,104,97,110,110,101,108]) fun x11=>cnd x11.1 (bn (S.s_pair x11.2) fun x12=>an (okG 126 x12.1) (app1 g3 2 32 (G 126 x12.1) ver fun g=>bn (S.s_need x12.2 [59]) fun x13=>l (.l0 x13 g0 g1 g2 g g4 lim (ver + 1))))
   (bn (S.s_word x11.2 [112,114,105,110,99,105,112,97,108]) fun x14=>cnd x14.1 (bn (S.s_pair x14.2) fun x15=>an (okG 126 x15.1) (app1 g4 2 32 (G 126 x15.1) ver fun g=>bn (S.s_need x15.2 [59]) fun x16=>l (.l0 x16 g0 g1 g2 g3 g lim (ver + 1))))
   (bn (S.s_word x14.2 [108,105,109,105,116]) fun x17=>cnd x17.1 (bn (S.s_number x17.2) fun x18=>bn (S.s_need x18.2 [59]) fun x19=>l (.l0 x19 g0 g1 g2 g3 g4 x18.1 (ver + 1)))
   (bn (S.s_fail x17.2 10) fun x20=>bn (S.s_need x20 [59]) fun x21=>l (.l0 x21 g0 g1 g2 g3 g4 lim ver))))))))
   (r (schD g0 g1 g2 g3 g4 lim,x1.2)))) (r (schD g0 g1 g2 g3 g4 lim,y0))
theorem QfK (S:Q9):KOk Tryz.prog [] 39 Tryz.f39 (Qg S) [([0,0,1,1],[(1,1),(4,72)],false)] 1 s_schema_at Jj (s_schema_st S):=by
 intro K g v
 cases v with
 | e s0=>kernel_rfl
 | l0 y0 g0 g1 g2 g3 g4 lim ver=>cases g0 <;> cases g1 <;> cases g2 <;> cases g3 <;> cases g4 <;> kernel_rfl
theorem QdO {g:GN} {sz bytes:Nat} {x:D} {ver:Nat} {K K':GN → Prop} (h:∀ g,K g → K' g):app1 g sz bytes x ver K → app1 g sz bytes x ver K' :=
 Qcr (h _) fun _ _=>Qv (Qv (Qs id (Qv (Qv (Qv (h _))))))
theorem Qk4 {sz:Nat} {agg:Bool} {x:D} {K K':List D → Prop} (h:∀ xs,K xs → K' xs):moreK sz agg (.dat x) K → moreK sz agg (.dat x) K':=by
 cases x with
 | str s =>
  show (if sz = 1 then _ else False) → (if sz = 1 then _ else False)
  split
  ·exact h _
  ·exact id
 | _=>exact QE fun es=>Qs (h es) id
theorem QeN {g:GN} {sz bytes:Nat} {agg:Bool} {x:D} {ver:Nat} {K K':GN → Prop} (h:∀ g,K g → K' g):appN g sz agg bytes x ver K → appN g sz agg bytes x ver K' :=
 Qk4 fun xs=>Qs (Qcr (h _) fun _ _=>Qv (h _)) (Qcr (Qv (Qv (h _))) fun _ _=>Qv (Qv (Qs id (Qv (Qv (Qv (h _)))))))
theorem QhS {S:Q9}:Mono (s_schema_st S):=fun _ _ _ hl v=>by cases v <;> (dsimp only [s_schema_st]; repeat' first | exact id | exact hl _ | apply Qv | apply Qs | (refine QE fun _=>?_) | apply QF | (refine QdO fun _=>?_) | (refine QeN fun _=>?_))
def s_schema_raw (S:Q9) (n:Nat) (s0:B105):Option (D × B105):=rawN Jj (s_schema_st S) n (.e s0)
theorem Qed {S:Q9} (hS:Qf S) (n:Nat):EntryOk Tryz.prog (e0 39 58 (s_schema_raw S n)):=QR fun _ _ hr=>Qd Q7 Tryz.func39 rfl hS (QfK S) QhS rfl rfl hr
end
end Go.Proofs.YtfdcjngclelnhaaGreat
namespace Go.Proofs.YtfdcjngclelnhaaGreat
open Go Go.RowKit
set_option maxRecDepth 100000
set_option maxHeartbeats 4000000
noncomputable section
inductive p_Schema_V where
 | e (s0:B74)
 | l0 (y0:B74) (g0 g1 g2 g3 g4:GN) (lim:Int) (ver:Nat)
 | l1 (low:List UInt8) (more:Bool) (y0:B74) (g0 g1 g2 g3 g4:GN) (lim:Int) (ver:Nat)
def p_Schema_at:p_Schema_V → Pth × List AV × Heap
 | .e s0=>([],startT Tryz.f40 [.ptr (some (0,0))],[b74 s0 0])
 | .l0 y0 g0 g1 g2 g3 g4 lim ver=>([0,0,1,1],mkT 102 [(0,.ptr (some (0,0))),(2,.ptr (some (1,0))),(3,.ptr (some (2,0)))],[some (o74 y0 0),some (.cells 58 [.dat .nils,.dat .nils,.dat .nils,.dat .nils,.dat .nils,.dat (.int .i64 0)] 0),some (.cells 58 (schCells g0 g1 g2 g3 g4 lim) ver)])
 | .l1 low more y0 g0 g1 g2 g3 g4 lim ver=>([0,1,1,0,1,1,1,0,0,1,0,0,0,1,1],mkT 102 [(0,.ptr (some (0,0))),(2,.ptr (some (1,0))),(3,.ptr (some (2,0))),(4,.dat (.str low)),(5,.dat (.bool more))],[some (o74 y0 0),some (.cells 58 [.dat .nils,.dat .nils,.dat .nils,.dat .nils,.dat .nils,.dat (.int .i64 0)] 0),some (.cells 58 (schCells g0 g1 g2 g3 g4 lim) ver)])
def p_Schema_st (S:Q9) (r:D × B74 → Prop) (l:p_Schema_V → Prop):p_Schema_V → Prop
 | .e s0=>l (.l0 s0 .n .n .n .n .n 0 6)
 | .l0 y0 g0 g1 g2 g3 g4 lim ver=>cnd (y0.c4 == 0) (bn (asL y0.c0) fun x0=>bn (atD x0 y0.c1) fun x1=>an (okG 107 x1) (cnd (cI x1 0 != 0)
   (bn (S.p_take y0 [108,101,118,101,108,115]) fun x2=>cnd x2.1 (bn (S.p_names x2.2) fun x3=>appN g0 1 false 16 x3.1 ver fun g=>bn (S.p_must x3.2 [59]) fun x4=>l (.l0 x4 g g1 g2 g3 g4 lim (ver + 1)))
   (bn (S.p_take x2.2 [111,114,100,101,114]) fun x5=>cnd x5.1 (bn (S.p_name x5.2) fun x6=>l (.l1 x6.1 true x6.2 g0 g1 g2 g3 g4 lim ver))
   (bn (S.p_take x5.2 [116,97,98,108,101]) fun x8=>cnd x8.1 (bn (S.p_table x8.2) fun x9=>an (okG 99 x9.1) (fl x9.1 [2,3,5] (app1 g2 6 120 (G 99 x9.1) ver fun g=>bn (S.p_must x9.2 [59]) fun x10=>l (.l0 x10 g0 g1 g g3 g4 lim (ver + 1)))))
   (bn (S.p_take x8.2 [99,104,97,110,110,101,108]) fun x11=>cnd x11.1 (bn (S.p_name x11.2) fun x12=>bn (S.p_name x12.2) fun x22=>app1 g3 2 32 (.agg [.str x12.1,.str x22.1]) ver fun g=>bn (S.p_must x22.2 [59]) fun x13=>l (.l0 x13 g0 g1 g2 g g4 lim (ver + 1)))
   (bn (S.p_take x11.2 [112,114,105,110,99,105,112,97,108]) fun x14=>cnd x14.1 (bn (S.p_name x14.2) fun x15=>bn (S.p_name x15.2) fun x25=>app1 g4 2 32 (.agg [.str x15.1,.str x25.1]) ver fun g=>bn (S.p_must x25.2 [59]) fun x16=>l (.l0 x16 g0 g1 g2 g3 g lim (ver + 1)))
   (bn (S.p_take x14.2 [108,105,109,105,116]) fun x17=>cnd x17.1 (bn (S.p_int x17.2) fun x18=>bn (S.p_must x18.2 [59]) fun x19=>l (.l0 x19 g0 g1 g2 g3 g4 x18.1 (ver + 1)))
   (bn (S.p_bad x17.2 10) fun x20=>bn (S.p_must x20 [59]) fun x21=>l (.l0 x21 g0 g1 g2 g3 g4 lim ver))))))))
   (r (schD g0 g1 g2 g3 g4 lim,y0)))) (r (schD g0 g1 g2 g3 g4 lim,y0))
 | .l1 low more y0 g0 g1 g2 g3 g4 lim ver=>cnd more (bn (S.p_must y0 [60]) fun x1=>bn (S.p_name x1) fun x2=>app1 g1 2 32 (.agg [.str low,.str x2.1]) ver fun g=>bn (S.p_is x2.2 [60]) fun x3=>l (.l1 x2.1 x3.1 x3.2 g0 g g2 g3 g4 lim (ver + 1)))
   (bn (S.p_must y0 [59]) fun x4=>l (.l0 x4 g0 g1 g2 g3 g4 lim ver))
def pAt (S:Q9) (v:p_Schema_V):Prop:=∀ (K:Kv) (g:Pth → List AV → Heap → Prop),
 execG Tryz.prog [] (tabE (Qg S)) 40 Tryz.f40 (hkT (hooksOf 1 g [([0,0,1,1],[(1,1),(4,98)],false),([0,1,1,0,1,1,1,0,0,1,0,0,0,1,1],[(1,1),(6,96)],false)])) 1000 (.on (p_Schema_at v).1) (p_Schema_at v).2.1 (p_Schema_at v).2.2 1 K = p_Schema_st S (fun o=>K (Jt o).1 (Jt o).2) (fun v=>g (p_Schema_at v).1 (p_Schema_at v).2.1 (p_Schema_at v).2.2) v
theorem Qrn (S:Q9) (y0:B74) (g2 g3 g4:GN) (lim:Int) (ver:Nat):pAt S (.l0 y0 .n .n g2 g3 g4 lim ver):=by
 intro K g
 cases g2 <;> cases g3 <;> cases g4 <;> kernel_rfl
theorem QrO (S:Q9) (low:List UInt8) (more:Bool) (y0:B74) (g2 g3 g4:GN) (lim:Int) (ver:Nat):pAt S (.l1 low more y0 .n .n g2 g3 g4 lim ver):=by
 intro K g
 cases g2 <;> cases g3 <;> cases g4 <;> kernel_rfl
theorem Qrk (S:Q9) (y0:B74) (b:List D) (v:Nat) (g2 g3 g4:GN) (lim:Int) (ver:Nat):pAt S (.l0 y0 .n (.o b v) g2 g3 g4 lim ver):=by
 intro K g
 cases g2 <;> cases g3 <;> cases g4 <;> kernel_rfl
theorem QrU (S:Q9) (low:List UInt8) (more:Bool) (y0:B74) (b:List D) (v:Nat) (g2 g3 g4:GN) (lim:Int) (ver:Nat):pAt S (.l1 low more y0 .n (.o b v) g2 g3 g4 lim ver):=by
 intro K g
 cases g2 <;> cases g3 <;> cases g4 <;> kernel_rfl
theorem Qrz (S:Q9) (y0:B74) (a:List D) (w:Nat) (g2 g3 g4:GN) (lim:Int) (ver:Nat):pAt S (.l0 y0 (.o a w) .n g2 g3 g4 lim ver):=by
 intro K g
 cases g2 <;> cases g3 <;> cases g4 <;> kernel_rfl
theorem QrC (S:Q9) (low:List UInt8) (more:Bool) (y0:B74) (a:List D) (w:Nat) (g2 g3 g4:GN) (lim:Int) (ver:Nat):pAt S (.l1 low more y0 (.o a w) .n g2 g3 g4 lim ver):=by
 intro K g
 cases g2 <;> cases g3 <;> cases g4 <;> kernel_rfl
theorem QrT (S:Q9) (y0:B74) (a:List D) (w:Nat) (b:List D) (v:Nat) (g2 g3 g4:GN) (lim:Int) (ver:Nat):pAt S (.l0 y0 (.o a w) (.o b v) g2 g3 g4 lim ver):=by
 intro K g
 cases g2 <;> cases g3 <;> cases g4 <;> kernel_rfl
theorem QrP (S:Q9) (low:List UInt8) (more:Bool) (y0:B74) (a:List D) (w:Nat) (b:List D) (v:Nat) (g2 g3 g4:GN) (lim:Int) (ver:Nat):pAt S (.l1 low more y0 (.o a w) (.o b v) g2 g3 g4 lim ver):=by
 intro K g
 cases g2 <;> cases g3 <;> cases g4 <;> kernel_rfl
theorem QhN (S:Q9):KOk Tryz.prog [] 40 Tryz.f40 (Qg S) [([0,0,1,1],[(1,1),(4,98)],false),([0,1,1,0,1,1,1,0,0,1,0,0,0,1,1],[(1,1),(6,96)],false)] 1 p_Schema_at Jt (p_Schema_st S):=by
 intro K g v
 cases v with
 | e s0=>kernel_rfl
 | l0 y0 g0 g1 g2 g3 g4 lim ver =>
  cases g0 <;> cases g1
  ·exact Qrn S y0 g2 g3 g4 lim ver K g
  ·exact Qrk S y0 _ _ g2 g3 g4 lim ver K g
  ·exact Qrz S y0 _ _ g2 g3 g4 lim ver K g
  ·exact QrT S y0 _ _ _ _ g2 g3 g4 lim ver K g
 | l1 low more y0 g0 g1 g2 g3 g4 lim ver =>
  cases g0 <;> cases g1
  ·exact QrO S low more y0 g2 g3 g4 lim ver K g
  ·exact QrU S low more y0 _ _ g2 g3 g4 lim ver K g
  ·exact QrC S low more y0 _ _ g2 g3 g4 lim ver K g
  ·exact QrP S low more y0 _ _ _ _ g2 g3 g4 lim ver K g
theorem Qil {S:Q9}:Mono (p_Schema_st S):=fun _ _ _ hl v=>by cases v <;> (dsimp only [p_Schema_st]; repeat' first | exact id | exact hl _ | apply Qv | apply Qs | (refine QE fun _=>?_) | apply QF | (refine QdO fun _=>?_) | (refine QeN fun _=>?_))
def p_Schema_raw (S:Q9) (n:Nat) (s0:B74):Option (D × B74):=rawN Jt (p_Schema_st S) n (.e s0)
theorem QfC {S:Q9} (hS:Qf S) (n:Nat):EntryOk Tryz.prog (e25 40 58 (p_Schema_raw S n)):=Je fun _ _ hr=>Qd Q7 Tryz.func40 rfl hS (QhN S) Qil rfl rfl hr
end
end Go.Proofs.YtfdcjngclelnhaaGreat
namespace Go.Proofs.YtfdcjngclelnhaaGreat
open Go Go.RowKit
theorem Qgb {P:Program} (hP:ProgOk P) {f:FuncId} {fn:Func} {body:Code} (hf:P.funcs[f]? = some fn) (hb:fn.body = some body) {args:List AV} {vargs:Array Value} {W:World} (hargs:DenL (K0 W) args vargs.toList)
  (hc:CallE P f args [] (.dat (.bool true)) []):Calls P f vargs W fun e W'=>e = .returned (.bool true) ∧ Below W.heap.size W W':=by
 have h3:=hc (K0 W) (fun _=>none) (fun _=>True) W vargs hargs (QsE W)
 have hname : (fn.name == "runtime.NumGoroutine") = false := by
  have:=List.all_eq_true.1 hP.named fn (Array.mem_toList_iff.2 (Array.mem_of_getElem? hf))
  simpa [hb] using this
 have hcf:(callFunc f vargs).run P W = .ok (.enter f vargs) W:=by
  simp only [callFunc,Sem.run_bind,run_program,Result.andThen_ok,hf,hname,hb,Option.isNone_some,Bool.false_eq_true,if_false,Sem.run_pure]
 rw [hcf] at h3
 refine Calls.mono h3 fun e W' hr=>?_
 cases e with
 | returned v =>
  obtain ⟨K',hh,_,e1,e2,e3⟩:=hr
  cases e2 with | dat e2=>?_
  cases e2
  obtain ⟨ow,hok⟩:=e3.ok
  have hbel:=hok.below
  rw [e1.base] at hbel
  exact ⟨rfl,hbel.below⟩
 | panicked c=>exact hr.elim
 | outgrown=>exact hr.elim
theorem QaG {P:Program} {f:FuncId} {args:List AV} {v:AV} (h:Call1 P f args [] v []):CallE P f args [] v []:=fun K HF V w vargs hargs hk=>by
 refine CallGives.mono (h.2 K HF V w vargs hargs hk) fun u w' ⟨K',h1,h2,h3⟩=>⟨K',[],rfl,h1,h2,h3⟩
end Go.Proofs.YtfdcjngclelnhaaGreat
